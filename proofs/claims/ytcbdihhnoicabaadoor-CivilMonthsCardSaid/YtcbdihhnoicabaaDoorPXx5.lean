-- MADE BY xprint.py (this session's own driver; wip/tools) out of the translation. Not trusted: Lean checks it.
import Derived.Test.YtcbdihhnoicabaaDoorPXx0
import Derived.Test.YtcbdihhnoicabaaDoorPXx3
import Derived.Test.YtcbdihhnoicabaaDoorPXx4
namespace Go.Proofs.YtcbdihhnoicabaaDoor.PX
open Go.RowKit Go.Proofs.YtcbdihhnoicabaaDoorW.PrintWords Go.Proofs.YtcbdihhnoicabaaDoorW.PrintLast Go.Proofs.YtcbdihhnoicabaaDoorW.PrintMore Go.Proofs.YtcbdihhnoicabaaDoor.Hand
attribute [local go_sem] max2_int min2_int max_two min_two max_three min_three max_four min_four   -- for this text's walks alone
set_option linter.unusedVariables false
set_option linter.unusedSimpArgs false

/-! ### bellmanlaw05_CivilMonths: function 3 -/
def bellmanlaw05_CivilMonths.f (k : Nat) (a0 : Int) (a1 : Int) (a2 : Int) (a3 : Int) (a4 : Int) : Option (Bool) := (civil_Days.f a0 a1).bind fun bt175 => ((bellmanref05_Days.f a0 a1).bind fun bt177 => ((civil_Weekday.f a0 a1 a2).bind fun bt179 => ((bellmanref05_Weekday.f k a0 a1 a2).bind fun bt181 => ((civil_Nth.f k a0 a1 a3 a4).bind fun bt183 => ((bellmanref05_Nth.f k a0 a1 a3 a4).bind fun bt185 => ((bellmanlaw05_lives.f k).bind fun t187 => (if t187 = true then (if bt175.1 = bt177.1 then (if bt175.2 = bt177.2 then (if bt179.1 = bt181.1 then (if bt179.2 = bt181.2 then (if bt183.1 = bt185.1 then (some (bt183.2 == bt185.2)) else (some false)) else (some false)) else (some false)) else (some false)) else (some false)) else (some false))))))))
theorem bellmanlaw05_CivilMonths.mono : ∀ a0 a1 a2 a3 a4 k, LeO (bellmanlaw05_CivilMonths.f k a0 a1 a2 a3 a4) (bellmanlaw05_CivilMonths.f (k + 1) a0 a1 a2 a3 a4) := by
  intro a0 a1 a2 a3 a4 k
  unfold bellmanlaw05_CivilMonths.f
  repeat' first
      | (with_reducible exact bellmanlaw05_lives.mono _)
      | (with_reducible exact bellmanref05_Nth.mono _ _ _ _ _)
      | (with_reducible exact bellmanref05_Weekday.mono _ _ _ _)
      | (with_reducible exact civil_Nth.mono _ _ _ _ _)
      | (with_reducible exact LeO.refl _)
      | (with_reducible exact LeO.none _)
      | (with_reducible refine LeO.ite ?_ ?_)
      | (with_reducible refine LeO.bind ?_ (fun _ => ?_))
      | exact bellmanlaw05_lives.mono _
      | exact bellmanref05_Nth.mono _ _ _ _ _
      | exact bellmanref05_Weekday.mono _ _ _ _
      | exact civil_Nth.mono _ _ _ _ _
      | exact LeO.none _
      | refine LeO.ite ?_ ?_
      | refine LeO.bind ?_ (fun _ => ?_)
set_option maxHeartbeats 8000000 in
set_option maxRecDepth 100000 in
theorem bellmanlaw05_CivilMonths.calls (k : Nat) (a0 : Int) (a1 : Int) (a2 : Int) (a3 : Int) (a4 : Int) (r : Bool) (w : World) (h : bellmanlaw05_CivilMonths.f k a0 a1 a2 a3 a4 = some r) (hTr : Aside0 (r = true)) (hGlb : Glob w) :
    Calls Tryd.prog 3 #[.int .i64 a0, .int .i64 a1, .int .i64 a2, .int .i64 a3, .int .i64 a4] w fun e w' => e = .returned (.bool r) ∧ Below w.heap.size w w' := by
  have HB := Aside0.mk (Below.refl w.heap.size w)
  have H : ((civil_Days.f a0 a1).bind fun bt175 => ((bellmanref05_Days.f a0 a1).bind fun bt177 => ((civil_Weekday.f a0 a1 a2).bind fun bt179 => ((bellmanref05_Weekday.f k a0 a1 a2).bind fun bt181 => ((civil_Nth.f k a0 a1 a3 a4).bind fun bt183 => ((bellmanref05_Nth.f k a0 a1 a3 a4).bind fun bt185 => ((bellmanlaw05_lives.f k).bind fun t187 => (if t187 = true then (if bt175.1 = bt177.1 then (if bt175.2 = bt177.2 then (if bt179.1 = bt181.1 then (if bt179.2 = bt181.2 then (if bt183.1 = bt185.1 then (some (bt183.2 == bt185.2)) else (some false)) else (some false)) else (some false)) else (some false)) else (some false)) else (some false))))))))) = some r := h
  clear h
  replace H := Option.bind_eq_some_iff.mp H
  obtain ⟨⟨t175, t176⟩, A60, H⟩ := H
  replace H : ((bellmanref05_Days.f a0 a1).bind fun bt177 => ((civil_Weekday.f a0 a1 a2).bind fun bt179 => ((bellmanref05_Weekday.f k a0 a1 a2).bind fun bt181 => ((civil_Nth.f k a0 a1 a3 a4).bind fun bt183 => ((bellmanref05_Nth.f k a0 a1 a3 a4).bind fun bt185 => ((bellmanlaw05_lives.f k).bind fun t187 => (if t187 = true then (if t175 = bt177.1 then (if t176 = bt177.2 then (if bt179.1 = bt181.1 then (if bt179.2 = bt181.2 then (if bt183.1 = bt185.1 then (some (bt183.2 == bt185.2)) else (some false)) else (some false)) else (some false)) else (some false)) else (some false)) else (some false)))))))) = some r := H
  have A6 := Aside0.mk A60
  clear A60
  replace H := Option.bind_eq_some_iff.mp H
  obtain ⟨⟨t177, t178⟩, A70, H⟩ := H
  replace H : ((civil_Weekday.f a0 a1 a2).bind fun bt179 => ((bellmanref05_Weekday.f k a0 a1 a2).bind fun bt181 => ((civil_Nth.f k a0 a1 a3 a4).bind fun bt183 => ((bellmanref05_Nth.f k a0 a1 a3 a4).bind fun bt185 => ((bellmanlaw05_lives.f k).bind fun t187 => (if t187 = true then (if t175 = t177 then (if t176 = t178 then (if bt179.1 = bt181.1 then (if bt179.2 = bt181.2 then (if bt183.1 = bt185.1 then (some (bt183.2 == bt185.2)) else (some false)) else (some false)) else (some false)) else (some false)) else (some false)) else (some false))))))) = some r := H
  have A7 := Aside0.mk A70
  clear A70
  replace H := Option.bind_eq_some_iff.mp H
  obtain ⟨⟨t179, t180⟩, A80, H⟩ := H
  replace H : ((bellmanref05_Weekday.f k a0 a1 a2).bind fun bt181 => ((civil_Nth.f k a0 a1 a3 a4).bind fun bt183 => ((bellmanref05_Nth.f k a0 a1 a3 a4).bind fun bt185 => ((bellmanlaw05_lives.f k).bind fun t187 => (if t187 = true then (if t175 = t177 then (if t176 = t178 then (if t179 = bt181.1 then (if t180 = bt181.2 then (if bt183.1 = bt185.1 then (some (bt183.2 == bt185.2)) else (some false)) else (some false)) else (some false)) else (some false)) else (some false)) else (some false)))))) = some r := H
  have A8 := Aside0.mk A80
  clear A80
  replace H := Option.bind_eq_some_iff.mp H
  obtain ⟨⟨t181, t182⟩, A90, H⟩ := H
  replace H : ((civil_Nth.f k a0 a1 a3 a4).bind fun bt183 => ((bellmanref05_Nth.f k a0 a1 a3 a4).bind fun bt185 => ((bellmanlaw05_lives.f k).bind fun t187 => (if t187 = true then (if t175 = t177 then (if t176 = t178 then (if t179 = t181 then (if t180 = t182 then (if bt183.1 = bt185.1 then (some (bt183.2 == bt185.2)) else (some false)) else (some false)) else (some false)) else (some false)) else (some false)) else (some false))))) = some r := H
  have A9 := Aside0.mk A90
  clear A90
  replace H := Option.bind_eq_some_iff.mp H
  obtain ⟨⟨t183, t184⟩, A100, H⟩ := H
  replace H : ((bellmanref05_Nth.f k a0 a1 a3 a4).bind fun bt185 => ((bellmanlaw05_lives.f k).bind fun t187 => (if t187 = true then (if t175 = t177 then (if t176 = t178 then (if t179 = t181 then (if t180 = t182 then (if t183 = bt185.1 then (some (t184 == bt185.2)) else (some false)) else (some false)) else (some false)) else (some false)) else (some false)) else (some false)))) = some r := H
  have A10 := Aside0.mk A100
  clear A100
  replace H := Option.bind_eq_some_iff.mp H
  obtain ⟨⟨t185, t186⟩, A110, H⟩ := H
  replace H : ((bellmanlaw05_lives.f k).bind fun t187 => (if t187 = true then (if t175 = t177 then (if t176 = t178 then (if t179 = t181 then (if t180 = t182 then (if t183 = t185 then (some (t184 == t186)) else (some false)) else (some false)) else (some false)) else (some false)) else (some false)) else (some false))) = some r := H
  have A11 := Aside0.mk A110
  clear A110
  replace H := Option.bind_eq_some_iff.mp H
  obtain ⟨t187, A120, H⟩ := H
  replace H : (if t187 = true then (if t175 = t177 then (if t176 = t178 then (if t179 = t181 then (if t180 = t182 then (if t183 = t185 then (some (t184 == t186)) else (some false)) else (some false)) else (some false)) else (some false)) else (some false)) else (some false)) = some r := H
  have A12 := Aside0.mk A120
  clear A120
  by_cases c13 : t187 = true
  · subst c13
    have H1 : (if t175 = t177 then (if t176 = t178 then (if t179 = t181 then (if t180 = t182 then (if t183 = t185 then (some (t184 == t186)) else (some false)) else (some false)) else (some false)) else (some false)) else (some false)) = some r := by rw [if_pos rfl] at H; exact H
    clear H
    have H := H1
    clear H1
    by_cases c14 : t175 = t177
    · rw [if_pos c14] at H
      have c14b0 : (t175 == t177) = true := beq_iff_eq.mpr c14
      have c14b1 : (t175 != t177) = false := bne_eq_false_iff_eq.mpr c14
      clear c14
      by_cases c15 : t176 = t178
      · rw [if_pos c15] at H
        have c15b0 : (t176 == t178) = true := beq_iff_eq.mpr c15
        have c15b1 : (t176 != t178) = false := bne_eq_false_iff_eq.mpr c15
        clear c15
        by_cases c16 : t179 = t181
        · rw [if_pos c16] at H
          have c16b0 : (t179 == t181) = true := beq_iff_eq.mpr c16
          have c16b1 : (t179 != t181) = false := bne_eq_false_iff_eq.mpr c16
          clear c16
          by_cases c17 : t180 = t182
          · rw [if_pos c17] at H
            have c17b0 : (t180 == t182) = true := beq_iff_eq.mpr c17
            have c17b1 : (t180 != t182) = false := bne_eq_false_iff_eq.mpr c17
            clear c17
            by_cases c18 : t183 = t185
            · rw [if_pos c18] at H
              have c18b0 : (t183 == t185) = true := beq_iff_eq.mpr c18
              have c18b1 : (t183 != t185) = false := bne_eq_false_iff_eq.mpr c18
              clear c18
              obtain rfl := Option.some.inj H
              go_enter Tryd.func3, Tryd.ntmps3
              go_wp2_with (first | ((with_reducible refine gate_callee (f := 12) rfl ?_); refine goesL_ (some 26) rfl rfl Tryd.func12 (by kernel_rfl) rfl #[.int .i64 a0, .int .i64 a1] rfl (by (try simp only [List.map_toArray, List.map_cons, List.map_nil]); first | done | rfl | (simp only [List.length_drop, List.length_take]; rfl)) ?_; (with_reducible refine (civil_Days.calls a0 a1 t175 t176 _ A6.out (by first | exact hGlb | exact Glob.drewN hGlb _ | exact Glob.drewN (Glob.drewN hGlb _) _ | exact Glob.below hGlb (by repeat (first | (with_reducible first | exact HB.out | apply below_alloc | apply pw_below_drewN | apply below_drew1) | exact HB.out)) | (with_unfolding_all exact hGlb))).mono ?_); rintro e w' ⟨rfl, ⟨nd, rfl⟩⟩; refine ⟨_, rfl, ?_⟩) | ((with_reducible refine gate_callee (f := 13) rfl ?_); refine goesL_ (some 32) rfl rfl Tryd.func13 (by kernel_rfl) rfl #[.int .i64 a0, .int .i64 a1] rfl (by (try simp only [List.map_toArray, List.map_cons, List.map_nil]); first | done | rfl | (simp only [List.length_drop, List.length_take]; rfl)) ?_; (with_reducible refine (bellmanref05_Days.calls a0 a1 t177 t178 _ A7.out).mono ?_); rintro e w19 ⟨rfl, hb⟩; refine ⟨_, rfl, ?_⟩; have n0_ := Aside0.mk (below_step (by repeat (first | (with_reducible first | exact HB.out | apply below_alloc | apply pw_below_drewN | apply below_drew1) | exact HB.out)) hb); clear HB; have HB := n0_; clear n0_; (try clear hb); (try clear hb2); (try clear hk); (try clear hi)) | ((with_reducible refine gate_callee (f := 14) rfl ?_); refine goesL_ (some 39) rfl rfl Tryd.func14 (by kernel_rfl) rfl #[.int .i64 a0, .int .i64 a1, .int .i64 a2] rfl (by (try simp only [List.map_toArray, List.map_cons, List.map_nil]); first | done | rfl | (simp only [List.length_drop, List.length_take]; rfl)) ?_; (with_reducible refine (civil_Weekday.calls a0 a1 a2 t179 t180 _ A8.out (by first | exact hGlb | exact Glob.drewN hGlb _ | exact Glob.drewN (Glob.drewN hGlb _) _ | exact Glob.below hGlb (by repeat (first | (with_reducible first | exact HB.out | apply below_alloc | apply pw_below_drewN | apply below_drew1) | exact HB.out)) | (with_unfolding_all exact hGlb))).mono ?_); rintro e w' ⟨rfl, ⟨nd, rfl⟩⟩; refine ⟨_, rfl, ?_⟩) | ((with_reducible refine gate_callee (f := 15) rfl ?_); refine goesL_ (some 46) rfl rfl Tryd.func15 (by kernel_rfl) rfl #[.int .i64 a0, .int .i64 a1, .int .i64 a2] rfl (by (try simp only [List.map_toArray, List.map_cons, List.map_nil]); first | done | rfl | (simp only [List.length_drop, List.length_take]; rfl)) ?_; (with_reducible refine (bellmanref05_Weekday.calls k a0 a1 a2 t181 t182 _ A9.out).mono ?_); rintro e w20 ⟨rfl, hb⟩; refine ⟨_, rfl, ?_⟩; have n0_ := Aside0.mk (below_step (by repeat (first | (with_reducible first | exact HB.out | apply below_alloc | apply pw_below_drewN | apply below_drew1) | exact HB.out)) hb); clear HB; have HB := n0_; clear n0_; (try clear hb); (try clear hb2); (try clear hk); (try clear hi)) | ((with_reducible refine gate_callee (f := 16) rfl ?_); refine goesL_ (some 54) rfl rfl Tryd.func16 (by kernel_rfl) rfl #[.int .i64 a0, .int .i64 a1, .int .i64 a3, .int .i64 a4] rfl (by (try simp only [List.map_toArray, List.map_cons, List.map_nil]); first | done | rfl | (simp only [List.length_drop, List.length_take]; rfl)) ?_; (with_reducible refine (civil_Nth.calls k a0 a1 a3 a4 t183 t184 _ A10.out (by first | exact hGlb | exact Glob.drewN hGlb _ | exact Glob.drewN (Glob.drewN hGlb _) _ | exact Glob.below hGlb (by repeat (first | (with_reducible first | exact HB.out | apply below_alloc | apply pw_below_drewN | apply below_drew1) | exact HB.out)) | (with_unfolding_all exact hGlb))).mono ?_); rintro e w' ⟨rfl, ⟨nd, rfl⟩⟩; refine ⟨_, rfl, ?_⟩) | ((with_reducible refine gate_callee (f := 17) rfl ?_); refine goesL_ (some 62) rfl rfl Tryd.func17 (by kernel_rfl) rfl #[.int .i64 a0, .int .i64 a1, .int .i64 a3, .int .i64 a4] rfl (by (try simp only [List.map_toArray, List.map_cons, List.map_nil]); first | done | rfl | (simp only [List.length_drop, List.length_take]; rfl)) ?_; (with_reducible refine (bellmanref05_Nth.calls k a0 a1 a3 a4 t185 t186 _ A11.out).mono ?_); rintro e w21 ⟨rfl, hb⟩; refine ⟨_, rfl, ?_⟩; have n0_ := Aside0.mk (below_step (by repeat (first | (with_reducible first | exact HB.out | apply below_alloc | apply pw_below_drewN | apply below_drew1) | exact HB.out)) hb); clear HB; have HB := n0_; clear n0_; (try clear hb); (try clear hb2); (try clear hk); (try clear hi)) | ((with_reducible refine gate_callee (f := 18) rfl ?_); refine goesL_ (some 65) rfl rfl Tryd.func18 (by kernel_rfl) rfl #[] rfl (by (try simp only [List.map_toArray, List.map_cons, List.map_nil]); first | done | rfl | (simp only [List.length_drop, List.length_take]; rfl)) ?_; (with_reducible refine (bellmanlaw05_lives.calls k  true _ A12.out (Aside0.mk rfl) (by first | exact hGlb | exact Glob.drewN hGlb _ | exact Glob.drewN (Glob.drewN hGlb _) _ | exact Glob.below hGlb (by repeat (first | (with_reducible first | exact HB.out | apply below_alloc | apply pw_below_drewN | apply below_drew1) | exact HB.out)) | (with_unfolding_all exact hGlb))).mono ?_); rintro e w22 ⟨rfl, hb⟩; refine ⟨_, rfl, ?_⟩; have n0_ := Aside0.mk (below_step (by repeat (first | (with_reducible first | exact HB.out | apply below_alloc | apply pw_below_drewN | apply below_drew1) | exact HB.out)) hb); clear HB; have HB := n0_; clear n0_; (try clear hb); (try clear hb2); (try clear hk); (try clear hi)))
              go_ret
              exact ⟨by first | rfl | (simp [errW_none, errW_some] <;> rfl) | (simp [*, errW_none, errW_some] <;> rfl), by repeat (first | (with_reducible first | exact HB.out | apply below_alloc | apply pw_below_drewN | apply below_drew1) | exact HB.out)⟩
            · rw [if_neg c18] at H
              have c18b0 : (t183 == t185) = false := beq_eq_false_iff_ne.mpr c18
              have c18b1 : (t183 != t185) = true := bne_iff_ne.mpr c18
              exact absurd ((Option.some.inj H).trans hTr.out) (by decide)
          · rw [if_neg c17] at H
            have c17b0 : (t180 == t182) = false := beq_eq_false_iff_ne.mpr c17
            have c17b1 : (t180 != t182) = true := bne_iff_ne.mpr c17
            exact absurd ((Option.some.inj H).trans hTr.out) (by decide)
        · rw [if_neg c16] at H
          have c16b0 : (t179 == t181) = false := beq_eq_false_iff_ne.mpr c16
          have c16b1 : (t179 != t181) = true := bne_iff_ne.mpr c16
          exact absurd ((Option.some.inj H).trans hTr.out) (by decide)
      · rw [if_neg c15] at H
        have c15b0 : (t176 == t178) = false := beq_eq_false_iff_ne.mpr c15
        have c15b1 : (t176 != t178) = true := bne_iff_ne.mpr c15
        exact absurd ((Option.some.inj H).trans hTr.out) (by decide)
    · rw [if_neg c14] at H
      have c14b0 : (t175 == t177) = false := beq_eq_false_iff_ne.mpr c14
      have c14b1 : (t175 != t177) = true := bne_iff_ne.mpr c14
      exact absurd ((Option.some.inj H).trans hTr.out) (by decide)
  · replace c13 := Bool.eq_false_iff.mpr c13
    subst c13
    have H1 : (some false) = some r := by rw [if_neg (show ¬ (false = true) by decide)] at H; exact H
    clear H
    have H := H1
    clear H1
    exact absurd ((Option.some.inj H).trans hTr.out) (by decide)

/-- THE ONE PURE STATEMENT of bellmanlaw05_CivilMonths: yours. -/
def bellmanlaw05_CivilMonths.Pure : Prop := ∀ (a0 : Int) (a1 : Int) (a2 : Int) (a3 : Int) (a4 : Int), (Lit.int .i64 a0).wf = true → (Lit.int .i64 a1).wf = true → (Lit.int .i64 a2).wf = true → (Lit.int .i64 a3).wf = true → (Lit.int .i64 a4).wf = true → ∃ k, bellmanlaw05_CivilMonths.f k a0 a1 a2 a3 a4 = some true
theorem bellmanlaw05_CivilMonths.walk (P : bellmanlaw05_CivilMonths.Pure) (a0 : Int) (a1 : Int) (a2 : Int) (a3 : Int) (a4 : Int) (w : World) (w0 : (Lit.int .i64 a0).wf = true) (w1 : (Lit.int .i64 a1).wf = true) (w2 : (Lit.int .i64 a2).wf = true) (w3 : (Lit.int .i64 a3).wf = true) (w4 : (Lit.int .i64 a4).wf = true) (hGlb : Glob w) :
    Calls Tryd.prog 3 #[.int .i64 a0, .int .i64 a1, .int .i64 a2, .int .i64 a3, .int .i64 a4] w fun e w' => e = .returned (.bool true) ∧ Below w.heap.size w w' := by
  obtain ⟨k, h⟩ := P a0 a1 a2 a3 a4 w0 w1 w2 w3 w4
  refine (bellmanlaw05_CivilMonths.calls k a0 a1 a2 a3 a4 true w h (Aside0.mk rfl) (by first | exact hGlb | exact Glob.drewN hGlb _ | exact Glob.drewN (Glob.drewN hGlb _) _ | exact Glob.below hGlb (by repeat (first | (with_reducible first | exact HB.out | apply below_alloc | apply pw_below_drewN | apply below_drew1) | exact HB.out)) | (with_unfolding_all exact hGlb))).mono ?_
  rintro e w' ⟨rfl, hd⟩
  exact ⟨rfl, hd⟩

/-! ### bellmanlaw05_CivilOn: function 4 -/
def bellmanlaw05_CivilOn.j0 : Nat → Int → Bool → Option (Bool)
  | 0, _, _ => none
  | k + 1, x0, x18 => if x18 = true then (some true) else ((civil_Week.f x0).bind fun bt189 => ((civil_Week.f (wrap64 (x0 + 60))).bind fun bt191 => ((civil_Week.f (wrap64 (x0 + 604800))).bind fun bt193 => ((civil_Week.f (wrap64 (x0 + 1))).bind fun bt195 => (if bt189.2 = 0 then (if bt191.2 = 0 then (if bt193.2 = 0 then (if bt195.2 = 0 then (if bt189.1 ≥ 0 then (if bt189.1 < 10080 then (if bt191.1 = (Int.tmod (wrap64 (bt189.1 + 1)) 10080) then (if bt193.1 = bt189.1 then (if bt195.1 = bt189.1 then (some true) else (some (bt195.1 == bt191.1))) else (some false)) else (some false)) else (some false)) else (some false)) else (some false)) else (some false)) else (some false)) else (some false))))))
def bellmanlaw05_CivilOn.f (k : Nat) (a0 : Int) : Option (Bool) := (bellmanlaw05_lives.f k).bind fun t188 => (if t188 = true then (if a0 < (-62135596800) then (bellmanlaw05_CivilOn.j0 k a0 true) else (bellmanlaw05_CivilOn.j0 k a0 (decide (a0 > 253401695999)))) else (some false))
theorem bellmanlaw05_CivilOn.mono_l : ∀ k, (∀ y0 y1, LeO (bellmanlaw05_CivilOn.j0 k y0 y1) (bellmanlaw05_CivilOn.j0 (k + 1) y0 y1))
  | 0 => fun _ _ r h => by simp [bellmanlaw05_CivilOn.j0] at h
  | k + 1 => by
    have ih0 := bellmanlaw05_CivilOn.mono_l k
    · intro y0 y1
      unfold bellmanlaw05_CivilOn.j0
      repeat' first
      | (with_reducible exact ih0 _ _)
      | (with_reducible exact bellmanlaw05_lives.mono _)
      | (with_reducible exact LeO.refl _)
      | (with_reducible exact LeO.none _)
      | (with_reducible refine LeO.ite ?_ ?_)
      | (with_reducible refine LeO.bind ?_ (fun _ => ?_))
      | exact ih0 _ _
      | exact bellmanlaw05_lives.mono _
      | exact LeO.none _
      | refine LeO.ite ?_ ?_
      | refine LeO.bind ?_ (fun _ => ?_)
theorem bellmanlaw05_CivilOn.mono : ∀ a0 k, LeO (bellmanlaw05_CivilOn.f k a0) (bellmanlaw05_CivilOn.f (k + 1) a0) := by
  intro a0 k
  have ih0 := bellmanlaw05_CivilOn.mono_l k
  unfold bellmanlaw05_CivilOn.f
  repeat' first
      | (with_reducible exact ih0 _ _)
      | (with_reducible exact bellmanlaw05_lives.mono _)
      | (with_reducible exact LeO.refl _)
      | (with_reducible exact LeO.none _)
      | (with_reducible refine LeO.ite ?_ ?_)
      | (with_reducible refine LeO.bind ?_ (fun _ => ?_))
      | exact ih0 _ _
      | exact bellmanlaw05_lives.mono _
      | exact LeO.none _
      | refine LeO.ite ?_ ?_
      | refine LeO.bind ?_ (fun _ => ?_)
set_option maxHeartbeats 8000000 in
set_option maxRecDepth 100000 in
theorem bellmanlaw05_CivilOn.calls (k : Nat) (a0 : Int) (r : Bool) (w : World) (h : bellmanlaw05_CivilOn.f k a0 = some r) (hTr : Aside0 (r = true)) (hGlb : Glob w) :
    Calls Tryd.prog 4 #[.int .i64 a0] w fun e w' => e = .returned (.bool r) ∧ Below w.heap.size w w' := by
  have HB := Aside0.mk (Below.refl w.heap.size w)
  have H : ((bellmanlaw05_lives.f k).bind fun t188 => (if t188 = true then (if a0 < (-62135596800) then (bellmanlaw05_CivilOn.j0 k a0 true) else (bellmanlaw05_CivilOn.j0 k a0 (decide (a0 > 253401695999)))) else (some false))) = some r := h
  clear h
  replace H := Option.bind_eq_some_iff.mp H
  obtain ⟨t188, A20, H⟩ := H
  replace H : (if t188 = true then (if a0 < (-62135596800) then (bellmanlaw05_CivilOn.j0 k a0 true) else (bellmanlaw05_CivilOn.j0 k a0 (decide (a0 > 253401695999)))) else (some false)) = some r := H
  have A2 := Aside0.mk A20
  clear A20
  by_cases c3 : t188 = true
  · subst c3
    have H1 : (if a0 < (-62135596800) then (bellmanlaw05_CivilOn.j0 k a0 true) else (bellmanlaw05_CivilOn.j0 k a0 (decide (a0 > 253401695999)))) = some r := by rw [if_pos rfl] at H; exact H
    clear H
    have H := H1
    clear H1
    have HC4 := Aside0.mk H
    clear H
    go_enter Tryd.func4, Tryd.ntmps4
    go_upto_region 3 with (first | ((with_reducible refine gate_callee (f := 18) rfl ?_); refine goesL_ (some 11) rfl rfl Tryd.func18 (by kernel_rfl) rfl #[] rfl (by (try simp only [List.map_toArray, List.map_cons, List.map_nil]); first | done | rfl | (simp only [List.length_drop, List.length_take]; rfl)) ?_; (with_reducible refine (bellmanlaw05_lives.calls k  true _ A2.out (Aside0.mk rfl) (by first | exact hGlb | exact Glob.drewN hGlb _ | exact Glob.drewN (Glob.drewN hGlb _) _ | exact Glob.below hGlb (by repeat (first | (with_reducible first | exact HB.out | apply below_alloc | apply pw_below_drewN | apply below_drew1) | exact HB.out)) | (with_unfolding_all exact hGlb))).mono ?_); rintro e w5 ⟨rfl, hb⟩; refine ⟨_, rfl, ?_⟩; have n0_ := Aside0.mk (below_step (by repeat (first | (with_reducible first | exact HB.out | apply below_alloc | apply pw_below_drewN | apply below_drew1) | exact HB.out)) hb); clear HB; have HB := n0_; clear n0_; (try clear hb); (try clear hb2); (try clear hk); (try clear hi)))
    (try simp only [Act.put, List.setIfInBounds_toArray, List.set_cons_zero, List.set_cons_succ])
    go_cut [18] (fun v18 wc => ∃ (kq : Nat) (x18_3 : Bool), v18 = .bool x18_3 ∧ Aside0 (bellmanlaw05_CivilOn.j0 kq a0 x18_3 = some r) ∧ Aside0 (kq ≤ k) ∧ Aside0 (Below w.heap.size w wc))
    case first =>
      have H := HC4.out
      clear HC4
      by_cases c6 : a0 < (-62135596800)
      · rw [if_pos c6] at H
        have c6b0 : decide (a0 < (-62135596800)) = true := decide_eq_true c6
        clear c6
        (first | rw [c6b0] | (simp only [i64_w, i32_w]; rw [c6b0]) | skip)
        have H' := Aside0.mk H
        clear H
        go_wp2
        go_meet
        case rel => exact ⟨_, (true), (by first | rfl | (simp; done) | (simp [*]; done)), H', ⟨by first | omega | exact Nat.le_refl _⟩, ⟨by repeat (first | (with_reducible first | exact HB.out | apply below_alloc | apply pw_below_drewN | apply below_drew1) | exact HB.out)⟩⟩
      · rw [if_neg c6] at H
        have c6b0 : decide (a0 < (-62135596800)) = false := decide_eq_false c6
        clear c6
        (first | rw [c6b0] | (simp only [i64_w, i32_w]; rw [c6b0]) | skip)
        have H' := Aside0.mk H
        clear H
        go_wp2
        go_meet
        case rel => exact ⟨_, (decide (a0 > 253401695999)), (by first | rfl | (simp; done) | (simp [*]; done)), H', ⟨by first | omega | exact Nat.le_refl _⟩, ⟨by repeat (first | (with_reducible first | exact HB.out | apply below_alloc | apply pw_below_drewN | apply below_drew1) | exact HB.out)⟩⟩
    case rest =>
      clear HC4
      try clear c1
      try clear p2
      try clear c3
      try clear c4
      try clear c6
      try clear c6b0
      obtain ⟨kq, x18_3, rfl, HA, HJ3, HB⟩ := hcut
      cases kq with
      | zero => exact absurd HA.out (by simp [bellmanlaw05_CivilOn.j0])
      | succ kj3 =>
        have H := HA.out
        clear HA
        simp only [bellmanlaw05_CivilOn.j0] at H
        by_cases c7 : x18_3 = true
        · subst c7
          have H1 : (some true) = some r := by rw [if_pos rfl] at H; exact H
          clear H
          have H := H1
          clear H1
          obtain rfl := Option.some.inj H
          go_wp2
          go_ret
          exact ⟨by first | rfl | (simp [errW_none, errW_some] <;> rfl) | (simp [*, errW_none, errW_some] <;> rfl), by repeat (first | (with_reducible first | exact HB.out | apply below_alloc | apply pw_below_drewN | apply below_drew1) | exact HB.out)⟩
        · replace c7 := Bool.eq_false_iff.mpr c7
          subst c7
          have H1 : ((civil_Week.f a0).bind fun bt189 => ((civil_Week.f (wrap64 (a0 + 60))).bind fun bt191 => ((civil_Week.f (wrap64 (a0 + 604800))).bind fun bt193 => ((civil_Week.f (wrap64 (a0 + 1))).bind fun bt195 => (if bt189.2 = 0 then (if bt191.2 = 0 then (if bt193.2 = 0 then (if bt195.2 = 0 then (if bt189.1 ≥ 0 then (if bt189.1 < 10080 then (if bt191.1 = (Int.tmod (wrap64 (bt189.1 + 1)) 10080) then (if bt193.1 = bt189.1 then (if bt195.1 = bt189.1 then (some true) else (some (bt195.1 == bt191.1))) else (some false)) else (some false)) else (some false)) else (some false)) else (some false)) else (some false)) else (some false)) else (some false)))))) = some r := by rw [if_neg (show ¬ (false = true) by decide)] at H; exact H
          clear H
          have H := H1
          clear H1
          replace H := Option.bind_eq_some_iff.mp H
          obtain ⟨⟨t189, t190⟩, A80, H⟩ := H
          replace H : ((civil_Week.f (wrap64 (a0 + 60))).bind fun bt191 => ((civil_Week.f (wrap64 (a0 + 604800))).bind fun bt193 => ((civil_Week.f (wrap64 (a0 + 1))).bind fun bt195 => (if t190 = 0 then (if bt191.2 = 0 then (if bt193.2 = 0 then (if bt195.2 = 0 then (if t189 ≥ 0 then (if t189 < 10080 then (if bt191.1 = (Int.tmod (wrap64 (t189 + 1)) 10080) then (if bt193.1 = t189 then (if bt195.1 = t189 then (some true) else (some (bt195.1 == bt191.1))) else (some false)) else (some false)) else (some false)) else (some false)) else (some false)) else (some false)) else (some false)) else (some false))))) = some r := H
          have A8 := Aside0.mk A80
          clear A80
          replace H := Option.bind_eq_some_iff.mp H
          obtain ⟨⟨t191, t192⟩, A90, H⟩ := H
          replace H : ((civil_Week.f (wrap64 (a0 + 604800))).bind fun bt193 => ((civil_Week.f (wrap64 (a0 + 1))).bind fun bt195 => (if t190 = 0 then (if t192 = 0 then (if bt193.2 = 0 then (if bt195.2 = 0 then (if t189 ≥ 0 then (if t189 < 10080 then (if t191 = (Int.tmod (wrap64 (t189 + 1)) 10080) then (if bt193.1 = t189 then (if bt195.1 = t189 then (some true) else (some (bt195.1 == t191))) else (some false)) else (some false)) else (some false)) else (some false)) else (some false)) else (some false)) else (some false)) else (some false)))) = some r := H
          have A9 := Aside0.mk A90
          clear A90
          replace H := Option.bind_eq_some_iff.mp H
          obtain ⟨⟨t193, t194⟩, A100, H⟩ := H
          replace H : ((civil_Week.f (wrap64 (a0 + 1))).bind fun bt195 => (if t190 = 0 then (if t192 = 0 then (if t194 = 0 then (if bt195.2 = 0 then (if t189 ≥ 0 then (if t189 < 10080 then (if t191 = (Int.tmod (wrap64 (t189 + 1)) 10080) then (if t193 = t189 then (if bt195.1 = t189 then (some true) else (some (bt195.1 == t191))) else (some false)) else (some false)) else (some false)) else (some false)) else (some false)) else (some false)) else (some false)) else (some false))) = some r := H
          have A10 := Aside0.mk A100
          clear A100
          replace H := Option.bind_eq_some_iff.mp H
          obtain ⟨⟨t195, t196⟩, A110, H⟩ := H
          replace H : (if t190 = 0 then (if t192 = 0 then (if t194 = 0 then (if t196 = 0 then (if t189 ≥ 0 then (if t189 < 10080 then (if t191 = (Int.tmod (wrap64 (t189 + 1)) 10080) then (if t193 = t189 then (if t195 = t189 then (some true) else (some (t195 == t191))) else (some false)) else (some false)) else (some false)) else (some false)) else (some false)) else (some false)) else (some false)) else (some false)) = some r := H
          have A11 := Aside0.mk A110
          clear A110
          by_cases c12 : t190 = 0
          · rw [if_pos c12] at H
            have c12b0 : (t190 == 0) = true := beq_iff_eq.mpr c12
            have c12b1 : (t190 != 0) = false := bne_eq_false_iff_eq.mpr c12
            clear c12
            by_cases c13 : t192 = 0
            · rw [if_pos c13] at H
              have c13b0 : (t192 == 0) = true := beq_iff_eq.mpr c13
              have c13b1 : (t192 != 0) = false := bne_eq_false_iff_eq.mpr c13
              clear c13
              by_cases c14 : t194 = 0
              · rw [if_pos c14] at H
                have c14b0 : (t194 == 0) = true := beq_iff_eq.mpr c14
                have c14b1 : (t194 != 0) = false := bne_eq_false_iff_eq.mpr c14
                clear c14
                by_cases c15 : t196 = 0
                · rw [if_pos c15] at H
                  have c15b0 : (t196 == 0) = true := beq_iff_eq.mpr c15
                  have c15b1 : (t196 != 0) = false := bne_eq_false_iff_eq.mpr c15
                  clear c15
                  by_cases c16 : t189 ≥ 0
                  · rw [if_pos c16] at H
                    have c16b0 : decide (0 ≤ t189) = true := decide_eq_true c16
                    clear c16
                    by_cases c17 : t189 < 10080
                    · rw [if_pos c17] at H
                      have c17b0 : decide (t189 < 10080) = true := decide_eq_true c17
                      clear c17
                      by_cases c18 : t191 = (Int.tmod (wrap64 (t189 + 1)) 10080)
                      · rw [if_pos c18] at H
                        have c18b0 : (t191 == (Int.tmod (wrap64 (t189 + 1)) 10080)) = true := beq_iff_eq.mpr c18
                        have c18b1 : (t191 != (Int.tmod (wrap64 (t189 + 1)) 10080)) = false := bne_eq_false_iff_eq.mpr c18
                        clear c18
                        by_cases c19 : t193 = t189
                        · rw [if_pos c19] at H
                          have c19b0 : (t193 == t189) = true := beq_iff_eq.mpr c19
                          have c19b1 : (t193 != t189) = false := bne_eq_false_iff_eq.mpr c19
                          clear c19
                          by_cases c20 : t195 = t189
                          · rw [if_pos c20] at H
                            have c20b0 : (t195 == t189) = true := beq_iff_eq.mpr c20
                            have c20b1 : (t195 != t189) = false := bne_eq_false_iff_eq.mpr c20
                            clear c20
                            obtain rfl := Option.some.inj H
                            go_wp2_with (first | ((with_reducible refine gate_callee (f := 19) rfl ?_); refine goesL_ (some 21) rfl rfl Tryd.func19 (by kernel_rfl) rfl #[.int .i64 a0] rfl (by (try simp only [List.map_toArray, List.map_cons, List.map_nil]); first | done | rfl | (simp only [List.length_drop, List.length_take]; rfl)) ?_; (with_reducible refine (civil_Week.calls a0 t189 t190 _ A8.out).mono ?_); rintro e w' ⟨rfl, ⟨nd, rfl⟩⟩; refine ⟨_, rfl, ?_⟩) | ((with_reducible refine gate_callee (f := 19) rfl ?_); refine goesL_ (some 27) rfl rfl Tryd.func19 (by kernel_rfl) rfl #[.int .i64 (wrap64 (a0 + 60))] rfl (by (try simp only [List.map_toArray, List.map_cons, List.map_nil]); first | done | rfl | (simp only [List.length_drop, List.length_take]; rfl)) ?_; (with_reducible refine (civil_Week.calls (wrap64 (a0 + 60)) t191 t192 _ A9.out).mono ?_); rintro e w' ⟨rfl, ⟨nd, rfl⟩⟩; refine ⟨_, rfl, ?_⟩) | ((with_reducible refine gate_callee (f := 19) rfl ?_); refine goesL_ (some 33) rfl rfl Tryd.func19 (by kernel_rfl) rfl #[.int .i64 (wrap64 (a0 + 604800))] rfl (by (try simp only [List.map_toArray, List.map_cons, List.map_nil]); first | done | rfl | (simp only [List.length_drop, List.length_take]; rfl)) ?_; (with_reducible refine (civil_Week.calls (wrap64 (a0 + 604800)) t193 t194 _ A10.out).mono ?_); rintro e w' ⟨rfl, ⟨nd, rfl⟩⟩; refine ⟨_, rfl, ?_⟩) | ((with_reducible refine gate_callee (f := 19) rfl ?_); refine goesL_ (some 39) rfl rfl Tryd.func19 (by kernel_rfl) rfl #[.int .i64 (wrap64 (a0 + 1))] rfl (by (try simp only [List.map_toArray, List.map_cons, List.map_nil]); first | done | rfl | (simp only [List.length_drop, List.length_take]; rfl)) ?_; (with_reducible refine (civil_Week.calls (wrap64 (a0 + 1)) t195 t196 _ A11.out).mono ?_); rintro e w' ⟨rfl, ⟨nd, rfl⟩⟩; refine ⟨_, rfl, ?_⟩))
                            go_ret
                            exact ⟨by first | rfl | (simp [errW_none, errW_some] <;> rfl) | (simp [*, errW_none, errW_some] <;> rfl), by repeat (first | (with_reducible first | exact HB.out | apply below_alloc | apply pw_below_drewN | apply below_drew1) | exact HB.out)⟩
                          · rw [if_neg c20] at H
                            have c20b0 : (t195 == t189) = false := beq_eq_false_iff_ne.mpr c20
                            have c20b1 : (t195 != t189) = true := bne_iff_ne.mpr c20
                            obtain rfl := Option.some.inj H
                            go_wp2_with (first | ((with_reducible refine gate_callee (f := 19) rfl ?_); refine goesL_ (some 21) rfl rfl Tryd.func19 (by kernel_rfl) rfl #[.int .i64 a0] rfl (by (try simp only [List.map_toArray, List.map_cons, List.map_nil]); first | done | rfl | (simp only [List.length_drop, List.length_take]; rfl)) ?_; (with_reducible refine (civil_Week.calls a0 t189 t190 _ A8.out).mono ?_); rintro e w' ⟨rfl, ⟨nd, rfl⟩⟩; refine ⟨_, rfl, ?_⟩) | ((with_reducible refine gate_callee (f := 19) rfl ?_); refine goesL_ (some 27) rfl rfl Tryd.func19 (by kernel_rfl) rfl #[.int .i64 (wrap64 (a0 + 60))] rfl (by (try simp only [List.map_toArray, List.map_cons, List.map_nil]); first | done | rfl | (simp only [List.length_drop, List.length_take]; rfl)) ?_; (with_reducible refine (civil_Week.calls (wrap64 (a0 + 60)) t191 t192 _ A9.out).mono ?_); rintro e w' ⟨rfl, ⟨nd, rfl⟩⟩; refine ⟨_, rfl, ?_⟩) | ((with_reducible refine gate_callee (f := 19) rfl ?_); refine goesL_ (some 33) rfl rfl Tryd.func19 (by kernel_rfl) rfl #[.int .i64 (wrap64 (a0 + 604800))] rfl (by (try simp only [List.map_toArray, List.map_cons, List.map_nil]); first | done | rfl | (simp only [List.length_drop, List.length_take]; rfl)) ?_; (with_reducible refine (civil_Week.calls (wrap64 (a0 + 604800)) t193 t194 _ A10.out).mono ?_); rintro e w' ⟨rfl, ⟨nd, rfl⟩⟩; refine ⟨_, rfl, ?_⟩) | ((with_reducible refine gate_callee (f := 19) rfl ?_); refine goesL_ (some 39) rfl rfl Tryd.func19 (by kernel_rfl) rfl #[.int .i64 (wrap64 (a0 + 1))] rfl (by (try simp only [List.map_toArray, List.map_cons, List.map_nil]); first | done | rfl | (simp only [List.length_drop, List.length_take]; rfl)) ?_; (with_reducible refine (civil_Week.calls (wrap64 (a0 + 1)) t195 t196 _ A11.out).mono ?_); rintro e w' ⟨rfl, ⟨nd, rfl⟩⟩; refine ⟨_, rfl, ?_⟩))
                            go_ret
                            exact ⟨by first | rfl | (simp [errW_none, errW_some] <;> rfl) | (simp [*, errW_none, errW_some] <;> rfl), by repeat (first | (with_reducible first | exact HB.out | apply below_alloc | apply pw_below_drewN | apply below_drew1) | exact HB.out)⟩
                        · rw [if_neg c19] at H
                          have c19b0 : (t193 == t189) = false := beq_eq_false_iff_ne.mpr c19
                          have c19b1 : (t193 != t189) = true := bne_iff_ne.mpr c19
                          exact absurd ((Option.some.inj H).trans hTr.out) (by decide)
                      · rw [if_neg c18] at H
                        have c18b0 : (t191 == (Int.tmod (wrap64 (t189 + 1)) 10080)) = false := beq_eq_false_iff_ne.mpr c18
                        have c18b1 : (t191 != (Int.tmod (wrap64 (t189 + 1)) 10080)) = true := bne_iff_ne.mpr c18
                        exact absurd ((Option.some.inj H).trans hTr.out) (by decide)
                    · rw [if_neg c17] at H
                      have c17b0 : decide (t189 < 10080) = false := decide_eq_false c17
                      clear c17
                      exact absurd ((Option.some.inj H).trans hTr.out) (by decide)
                  · rw [if_neg c16] at H
                    have c16b0 : decide (0 ≤ t189) = false := decide_eq_false c16
                    clear c16
                    exact absurd ((Option.some.inj H).trans hTr.out) (by decide)
                · rw [if_neg c15] at H
                  have c15b0 : (t196 == 0) = false := beq_eq_false_iff_ne.mpr c15
                  have c15b1 : (t196 != 0) = true := bne_iff_ne.mpr c15
                  exact absurd ((Option.some.inj H).trans hTr.out) (by decide)
              · rw [if_neg c14] at H
                have c14b0 : (t194 == 0) = false := beq_eq_false_iff_ne.mpr c14
                have c14b1 : (t194 != 0) = true := bne_iff_ne.mpr c14
                exact absurd ((Option.some.inj H).trans hTr.out) (by decide)
            · rw [if_neg c13] at H
              have c13b0 : (t192 == 0) = false := beq_eq_false_iff_ne.mpr c13
              have c13b1 : (t192 != 0) = true := bne_iff_ne.mpr c13
              exact absurd ((Option.some.inj H).trans hTr.out) (by decide)
          · rw [if_neg c12] at H
            have c12b0 : (t190 == 0) = false := beq_eq_false_iff_ne.mpr c12
            have c12b1 : (t190 != 0) = true := bne_iff_ne.mpr c12
            exact absurd ((Option.some.inj H).trans hTr.out) (by decide)
  · replace c3 := Bool.eq_false_iff.mpr c3
    subst c3
    have H1 : (some false) = some r := by rw [if_neg (show ¬ (false = true) by decide)] at H; exact H
    clear H
    have H := H1
    clear H1
    exact absurd ((Option.some.inj H).trans hTr.out) (by decide)

/-- THE ONE PURE STATEMENT of bellmanlaw05_CivilOn: yours. -/
def bellmanlaw05_CivilOn.Pure : Prop := ∀ (a0 : Int), (Lit.int .i64 a0).wf = true → ∃ k, bellmanlaw05_CivilOn.f k a0 = some true
theorem bellmanlaw05_CivilOn.walk (P : bellmanlaw05_CivilOn.Pure) (a0 : Int) (w : World) (w0 : (Lit.int .i64 a0).wf = true) (hGlb : Glob w) :
    Calls Tryd.prog 4 #[.int .i64 a0] w fun e w' => e = .returned (.bool true) ∧ Below w.heap.size w w' := by
  obtain ⟨k, h⟩ := P a0 w0
  refine (bellmanlaw05_CivilOn.calls k a0 true w h (Aside0.mk rfl) (by first | exact hGlb | exact Glob.drewN hGlb _ | exact Glob.drewN (Glob.drewN hGlb _) _ | exact Glob.below hGlb (by repeat (first | (with_reducible first | exact HB.out | apply below_alloc | apply pw_below_drewN | apply below_drew1) | exact HB.out)) | (with_unfolding_all exact hGlb))).mono ?_
  rintro e w' ⟨rfl, hd⟩
  exact ⟨rfl, hd⟩

/-! ### bellmanlaw05_CivilNth: function 5 -/
def bellmanlaw05_CivilNth.j0 : Nat → Int → Int → Int → Int → Bool → Option (Bool)
  | 0, _, _, _, _, _ => none
  | k + 1, x3, x9, x13, x15, x73 => if x73 = true then (some false) else (if x3 = 5 then (if (wrap64 (x9 + 7)) > x13 then (some (decide (x9 ≤ x13))) else (some false)) else (some (x9 == (wrap64 (x15 + (wrap64 (7 * (wrap64 (x3 - 1)))))))))
def bellmanlaw05_CivilNth.f (k : Nat) (a0 : Int) (a1 : Int) (a2 : Int) (a3 : Int) : Option (Bool) := (bellmanlaw05_lives.f k).bind fun t197 => (if t197 = true then ((civil_Nth.f k a0 a1 a2 a3).bind fun bt198 => (if bt198.2 = 0 then ((civil_Weekday.f a0 a1 bt198.1).bind fun bt200 => ((civil_Days.f a0 a1).bind fun bt202 => ((civil_Nth.f k a0 a1 a2 1).bind fun bt204 => (if bt200.2 = 0 then (if bt200.1 = a2 then (if bt202.2 = 0 then (if bt204.2 = 0 then (if bt204.1 < 1 then (bellmanlaw05_CivilNth.j0 k a3 bt198.1 bt202.1 bt204.1 true) else (bellmanlaw05_CivilNth.j0 k a3 bt198.1 bt202.1 bt204.1 (decide (bt204.1 > 7)))) else (bellmanlaw05_CivilNth.j0 k a3 bt198.1 bt202.1 bt204.1 true)) else (bellmanlaw05_CivilNth.j0 k a3 bt198.1 bt202.1 bt204.1 true)) else (bellmanlaw05_CivilNth.j0 k a3 bt198.1 bt202.1 bt204.1 true)) else (bellmanlaw05_CivilNth.j0 k a3 bt198.1 bt202.1 bt204.1 true))))) else (some (bt198.1 == 0)))) else (some false))
theorem bellmanlaw05_CivilNth.mono_l : ∀ k, (∀ y0 y1 y2 y3 y4, LeO (bellmanlaw05_CivilNth.j0 k y0 y1 y2 y3 y4) (bellmanlaw05_CivilNth.j0 (k + 1) y0 y1 y2 y3 y4))
  | 0 => fun _ _ _ _ _ r h => by simp [bellmanlaw05_CivilNth.j0] at h
  | k + 1 => by
    have ih0 := bellmanlaw05_CivilNth.mono_l k
    · intro y0 y1 y2 y3 y4
      unfold bellmanlaw05_CivilNth.j0
      repeat' first
      | (with_reducible exact ih0 _ _ _ _ _)
      | (with_reducible exact bellmanlaw05_lives.mono _)
      | (with_reducible exact civil_Nth.mono _ _ _ _ _)
      | (with_reducible exact LeO.refl _)
      | (with_reducible exact LeO.none _)
      | (with_reducible refine LeO.ite ?_ ?_)
      | (with_reducible refine LeO.bind ?_ (fun _ => ?_))
      | exact ih0 _ _ _ _ _
      | exact bellmanlaw05_lives.mono _
      | exact civil_Nth.mono _ _ _ _ _
      | exact LeO.none _
      | refine LeO.ite ?_ ?_
      | refine LeO.bind ?_ (fun _ => ?_)
theorem bellmanlaw05_CivilNth.mono : ∀ a0 a1 a2 a3 k, LeO (bellmanlaw05_CivilNth.f k a0 a1 a2 a3) (bellmanlaw05_CivilNth.f (k + 1) a0 a1 a2 a3) := by
  intro a0 a1 a2 a3 k
  have ih0 := bellmanlaw05_CivilNth.mono_l k
  unfold bellmanlaw05_CivilNth.f
  repeat' first
      | (with_reducible exact ih0 _ _ _ _ _)
      | (with_reducible exact bellmanlaw05_lives.mono _)
      | (with_reducible exact civil_Nth.mono _ _ _ _ _)
      | (with_reducible exact LeO.refl _)
      | (with_reducible exact LeO.none _)
      | (with_reducible refine LeO.ite ?_ ?_)
      | (with_reducible refine LeO.bind ?_ (fun _ => ?_))
      | exact ih0 _ _ _ _ _
      | exact bellmanlaw05_lives.mono _
      | exact civil_Nth.mono _ _ _ _ _
      | exact LeO.none _
      | refine LeO.ite ?_ ?_
      | refine LeO.bind ?_ (fun _ => ?_)
set_option maxHeartbeats 8000000 in
set_option maxRecDepth 100000 in
theorem bellmanlaw05_CivilNth.calls (k : Nat) (a0 : Int) (a1 : Int) (a2 : Int) (a3 : Int) (r : Bool) (w : World) (h : bellmanlaw05_CivilNth.f k a0 a1 a2 a3 = some r) (hTr : Aside0 (r = true)) (hGlb : Glob w) :
    Calls Tryd.prog 5 #[.int .i64 a0, .int .i64 a1, .int .i64 a2, .int .i64 a3] w fun e w' => e = .returned (.bool r) ∧ Below w.heap.size w w' := by
  have HB := Aside0.mk (Below.refl w.heap.size w)
  have H : ((bellmanlaw05_lives.f k).bind fun t197 => (if t197 = true then ((civil_Nth.f k a0 a1 a2 a3).bind fun bt198 => (if bt198.2 = 0 then ((civil_Weekday.f a0 a1 bt198.1).bind fun bt200 => ((civil_Days.f a0 a1).bind fun bt202 => ((civil_Nth.f k a0 a1 a2 1).bind fun bt204 => (if bt200.2 = 0 then (if bt200.1 = a2 then (if bt202.2 = 0 then (if bt204.2 = 0 then (if bt204.1 < 1 then (bellmanlaw05_CivilNth.j0 k a3 bt198.1 bt202.1 bt204.1 true) else (bellmanlaw05_CivilNth.j0 k a3 bt198.1 bt202.1 bt204.1 (decide (bt204.1 > 7)))) else (bellmanlaw05_CivilNth.j0 k a3 bt198.1 bt202.1 bt204.1 true)) else (bellmanlaw05_CivilNth.j0 k a3 bt198.1 bt202.1 bt204.1 true)) else (bellmanlaw05_CivilNth.j0 k a3 bt198.1 bt202.1 bt204.1 true)) else (bellmanlaw05_CivilNth.j0 k a3 bt198.1 bt202.1 bt204.1 true))))) else (some (bt198.1 == 0)))) else (some false))) = some r := h
  clear h
  replace H := Option.bind_eq_some_iff.mp H
  obtain ⟨t197, A50, H⟩ := H
  replace H : (if t197 = true then ((civil_Nth.f k a0 a1 a2 a3).bind fun bt198 => (if bt198.2 = 0 then ((civil_Weekday.f a0 a1 bt198.1).bind fun bt200 => ((civil_Days.f a0 a1).bind fun bt202 => ((civil_Nth.f k a0 a1 a2 1).bind fun bt204 => (if bt200.2 = 0 then (if bt200.1 = a2 then (if bt202.2 = 0 then (if bt204.2 = 0 then (if bt204.1 < 1 then (bellmanlaw05_CivilNth.j0 k a3 bt198.1 bt202.1 bt204.1 true) else (bellmanlaw05_CivilNth.j0 k a3 bt198.1 bt202.1 bt204.1 (decide (bt204.1 > 7)))) else (bellmanlaw05_CivilNth.j0 k a3 bt198.1 bt202.1 bt204.1 true)) else (bellmanlaw05_CivilNth.j0 k a3 bt198.1 bt202.1 bt204.1 true)) else (bellmanlaw05_CivilNth.j0 k a3 bt198.1 bt202.1 bt204.1 true)) else (bellmanlaw05_CivilNth.j0 k a3 bt198.1 bt202.1 bt204.1 true))))) else (some (bt198.1 == 0)))) else (some false)) = some r := H
  have A5 := Aside0.mk A50
  clear A50
  by_cases c6 : t197 = true
  · subst c6
    have H1 : ((civil_Nth.f k a0 a1 a2 a3).bind fun bt198 => (if bt198.2 = 0 then ((civil_Weekday.f a0 a1 bt198.1).bind fun bt200 => ((civil_Days.f a0 a1).bind fun bt202 => ((civil_Nth.f k a0 a1 a2 1).bind fun bt204 => (if bt200.2 = 0 then (if bt200.1 = a2 then (if bt202.2 = 0 then (if bt204.2 = 0 then (if bt204.1 < 1 then (bellmanlaw05_CivilNth.j0 k a3 bt198.1 bt202.1 bt204.1 true) else (bellmanlaw05_CivilNth.j0 k a3 bt198.1 bt202.1 bt204.1 (decide (bt204.1 > 7)))) else (bellmanlaw05_CivilNth.j0 k a3 bt198.1 bt202.1 bt204.1 true)) else (bellmanlaw05_CivilNth.j0 k a3 bt198.1 bt202.1 bt204.1 true)) else (bellmanlaw05_CivilNth.j0 k a3 bt198.1 bt202.1 bt204.1 true)) else (bellmanlaw05_CivilNth.j0 k a3 bt198.1 bt202.1 bt204.1 true))))) else (some (bt198.1 == 0)))) = some r := by rw [if_pos rfl] at H; exact H
    clear H
    have H := H1
    clear H1
    replace H := Option.bind_eq_some_iff.mp H
    obtain ⟨⟨t198, t199⟩, A70, H⟩ := H
    replace H : (if t199 = 0 then ((civil_Weekday.f a0 a1 t198).bind fun bt200 => ((civil_Days.f a0 a1).bind fun bt202 => ((civil_Nth.f k a0 a1 a2 1).bind fun bt204 => (if bt200.2 = 0 then (if bt200.1 = a2 then (if bt202.2 = 0 then (if bt204.2 = 0 then (if bt204.1 < 1 then (bellmanlaw05_CivilNth.j0 k a3 t198 bt202.1 bt204.1 true) else (bellmanlaw05_CivilNth.j0 k a3 t198 bt202.1 bt204.1 (decide (bt204.1 > 7)))) else (bellmanlaw05_CivilNth.j0 k a3 t198 bt202.1 bt204.1 true)) else (bellmanlaw05_CivilNth.j0 k a3 t198 bt202.1 bt204.1 true)) else (bellmanlaw05_CivilNth.j0 k a3 t198 bt202.1 bt204.1 true)) else (bellmanlaw05_CivilNth.j0 k a3 t198 bt202.1 bt204.1 true))))) else (some (t198 == 0))) = some r := H
    have A7 := Aside0.mk A70
    clear A70
    by_cases c8 : t199 = 0
    · rw [if_pos c8] at H
      have c8b0 : (t199 == 0) = true := beq_iff_eq.mpr c8
      have c8b1 : (t199 != 0) = false := bne_eq_false_iff_eq.mpr c8
      clear c8
      replace H := Option.bind_eq_some_iff.mp H
      obtain ⟨⟨t200, t201⟩, A90, H⟩ := H
      replace H : ((civil_Days.f a0 a1).bind fun bt202 => ((civil_Nth.f k a0 a1 a2 1).bind fun bt204 => (if t201 = 0 then (if t200 = a2 then (if bt202.2 = 0 then (if bt204.2 = 0 then (if bt204.1 < 1 then (bellmanlaw05_CivilNth.j0 k a3 t198 bt202.1 bt204.1 true) else (bellmanlaw05_CivilNth.j0 k a3 t198 bt202.1 bt204.1 (decide (bt204.1 > 7)))) else (bellmanlaw05_CivilNth.j0 k a3 t198 bt202.1 bt204.1 true)) else (bellmanlaw05_CivilNth.j0 k a3 t198 bt202.1 bt204.1 true)) else (bellmanlaw05_CivilNth.j0 k a3 t198 bt202.1 bt204.1 true)) else (bellmanlaw05_CivilNth.j0 k a3 t198 bt202.1 bt204.1 true)))) = some r := H
      have A9 := Aside0.mk A90
      clear A90
      replace H := Option.bind_eq_some_iff.mp H
      obtain ⟨⟨t202, t203⟩, A100, H⟩ := H
      replace H : ((civil_Nth.f k a0 a1 a2 1).bind fun bt204 => (if t201 = 0 then (if t200 = a2 then (if t203 = 0 then (if bt204.2 = 0 then (if bt204.1 < 1 then (bellmanlaw05_CivilNth.j0 k a3 t198 t202 bt204.1 true) else (bellmanlaw05_CivilNth.j0 k a3 t198 t202 bt204.1 (decide (bt204.1 > 7)))) else (bellmanlaw05_CivilNth.j0 k a3 t198 t202 bt204.1 true)) else (bellmanlaw05_CivilNth.j0 k a3 t198 t202 bt204.1 true)) else (bellmanlaw05_CivilNth.j0 k a3 t198 t202 bt204.1 true)) else (bellmanlaw05_CivilNth.j0 k a3 t198 t202 bt204.1 true))) = some r := H
      have A10 := Aside0.mk A100
      clear A100
      replace H := Option.bind_eq_some_iff.mp H
      obtain ⟨⟨t204, t205⟩, A110, H⟩ := H
      replace H : (if t201 = 0 then (if t200 = a2 then (if t203 = 0 then (if t205 = 0 then (if t204 < 1 then (bellmanlaw05_CivilNth.j0 k a3 t198 t202 t204 true) else (bellmanlaw05_CivilNth.j0 k a3 t198 t202 t204 (decide (t204 > 7)))) else (bellmanlaw05_CivilNth.j0 k a3 t198 t202 t204 true)) else (bellmanlaw05_CivilNth.j0 k a3 t198 t202 t204 true)) else (bellmanlaw05_CivilNth.j0 k a3 t198 t202 t204 true)) else (bellmanlaw05_CivilNth.j0 k a3 t198 t202 t204 true)) = some r := H
      have A11 := Aside0.mk A110
      clear A110
      have HC12 := Aside0.mk H
      clear H
      go_enter Tryd.func5, Tryd.ntmps5
      go_upto_region 9 with (first | ((with_reducible refine gate_callee (f := 18) rfl ?_); refine goesL_ (some 17) rfl rfl Tryd.func18 (by kernel_rfl) rfl #[] rfl (by (try simp only [List.map_toArray, List.map_cons, List.map_nil]); first | done | rfl | (simp only [List.length_drop, List.length_take]; rfl)) ?_; (with_reducible refine (bellmanlaw05_lives.calls k  true _ A5.out (Aside0.mk rfl) (by first | exact hGlb | exact Glob.drewN hGlb _ | exact Glob.drewN (Glob.drewN hGlb _) _ | exact Glob.below hGlb (by repeat (first | (with_reducible first | exact HB.out | apply below_alloc | apply pw_below_drewN | apply below_drew1) | exact HB.out)) | (with_unfolding_all exact hGlb))).mono ?_); rintro e w13 ⟨rfl, hb⟩; refine ⟨_, rfl, ?_⟩; have n0_ := Aside0.mk (below_step (by repeat (first | (with_reducible first | exact HB.out | apply below_alloc | apply pw_below_drewN | apply below_drew1) | exact HB.out)) hb); clear HB; have HB := n0_; clear n0_; (try clear hb); (try clear hb2); (try clear hk); (try clear hi)) | ((with_reducible refine gate_callee (f := 16) rfl ?_); refine goesL_ (some 24) rfl rfl Tryd.func16 (by kernel_rfl) rfl #[.int .i64 a0, .int .i64 a1, .int .i64 a2, .int .i64 a3] rfl (by (try simp only [List.map_toArray, List.map_cons, List.map_nil]); first | done | rfl | (simp only [List.length_drop, List.length_take]; rfl)) ?_; (with_reducible refine (civil_Nth.calls k a0 a1 a2 a3 t198 t199 _ A7.out (by first | exact hGlb | exact Glob.drewN hGlb _ | exact Glob.drewN (Glob.drewN hGlb _) _ | exact Glob.below hGlb (by repeat (first | (with_reducible first | exact HB.out | apply below_alloc | apply pw_below_drewN | apply below_drew1) | exact HB.out)) | (with_unfolding_all exact hGlb))).mono ?_); rintro e w' ⟨rfl, ⟨nd, rfl⟩⟩; refine ⟨_, rfl, ?_⟩) | ((with_reducible refine gate_callee (f := 14) rfl ?_); refine goesL_ (some 35) rfl rfl Tryd.func14 (by kernel_rfl) rfl #[.int .i64 a0, .int .i64 a1, .int .i64 t198] rfl (by (try simp only [List.map_toArray, List.map_cons, List.map_nil]); first | done | rfl | (simp only [List.length_drop, List.length_take]; rfl)) ?_; (with_reducible refine (civil_Weekday.calls a0 a1 t198 t200 t201 _ A9.out (by first | exact hGlb | exact Glob.drewN hGlb _ | exact Glob.drewN (Glob.drewN hGlb _) _ | exact Glob.below hGlb (by repeat (first | (with_reducible first | exact HB.out | apply below_alloc | apply pw_below_drewN | apply below_drew1) | exact HB.out)) | (with_unfolding_all exact hGlb))).mono ?_); rintro e w' ⟨rfl, ⟨nd, rfl⟩⟩; refine ⟨_, rfl, ?_⟩) | ((with_reducible refine gate_callee (f := 12) rfl ?_); refine goesL_ (some 41) rfl rfl Tryd.func12 (by kernel_rfl) rfl #[.int .i64 a0, .int .i64 a1] rfl (by (try simp only [List.map_toArray, List.map_cons, List.map_nil]); first | done | rfl | (simp only [List.length_drop, List.length_take]; rfl)) ?_; (with_reducible refine (civil_Days.calls a0 a1 t202 t203 _ A10.out (by first | exact hGlb | exact Glob.drewN hGlb _ | exact Glob.drewN (Glob.drewN hGlb _) _ | exact Glob.below hGlb (by repeat (first | (with_reducible first | exact HB.out | apply below_alloc | apply pw_below_drewN | apply below_drew1) | exact HB.out)) | (with_unfolding_all exact hGlb))).mono ?_); rintro e w' ⟨rfl, ⟨nd, rfl⟩⟩; refine ⟨_, rfl, ?_⟩) | ((with_reducible refine gate_callee (f := 16) rfl ?_); refine goesL_ (some 48) rfl rfl Tryd.func16 (by kernel_rfl) rfl #[.int .i64 a0, .int .i64 a1, .int .i64 a2, .int .i64 1] rfl (by (try simp only [List.map_toArray, List.map_cons, List.map_nil]); first | done | rfl | (simp only [List.length_drop, List.length_take]; rfl)) ?_; (with_reducible refine (civil_Nth.calls k a0 a1 a2 1 t204 t205 _ A11.out (by first | exact hGlb | exact Glob.drewN hGlb _ | exact Glob.drewN (Glob.drewN hGlb _) _ | exact Glob.below hGlb (by repeat (first | (with_reducible first | exact HB.out | apply below_alloc | apply pw_below_drewN | apply below_drew1) | exact HB.out)) | (with_unfolding_all exact hGlb))).mono ?_); rintro e w' ⟨rfl, ⟨nd, rfl⟩⟩; refine ⟨_, rfl, ?_⟩))
      (try simp only [Act.put, List.setIfInBounds_toArray, List.set_cons_zero, List.set_cons_succ])
      go_cut [73] (fun v73 wc => ∃ (kq : Nat) (x73_11 : Bool), v73 = .bool x73_11 ∧ Aside0 (bellmanlaw05_CivilNth.j0 kq a3 t198 t202 t204 x73_11 = some r) ∧ Aside0 (kq ≤ k) ∧ Aside0 (Below w.heap.size w wc))
      case first =>
        have H := HC12.out
        clear HC12
        by_cases c14 : t201 = 0
        · rw [if_pos c14] at H
          have c14b0 : (t201 == 0) = true := beq_iff_eq.mpr c14
          have c14b1 : (t201 != 0) = false := bne_eq_false_iff_eq.mpr c14
          clear c14
          (first | rw [c14b0] | (simp only [i64_w, i32_w]; rw [c14b0]) | skip)
          by_cases c15 : t200 = a2
          · rw [if_pos c15] at H
            have c15b0 : (t200 == a2) = true := beq_iff_eq.mpr c15
            have c15b1 : (t200 != a2) = false := bne_eq_false_iff_eq.mpr c15
            clear c15
            by_cases c16 : t203 = 0
            · rw [if_pos c16] at H
              have c16b0 : (t203 == 0) = true := beq_iff_eq.mpr c16
              have c16b1 : (t203 != 0) = false := bne_eq_false_iff_eq.mpr c16
              clear c16
              by_cases c17 : t205 = 0
              · rw [if_pos c17] at H
                have c17b0 : (t205 == 0) = true := beq_iff_eq.mpr c17
                have c17b1 : (t205 != 0) = false := bne_eq_false_iff_eq.mpr c17
                clear c17
                by_cases c18 : t204 < 1
                · rw [if_pos c18] at H
                  have c18b0 : decide (t204 < 1) = true := decide_eq_true c18
                  clear c18
                  have H' := Aside0.mk H
                  clear H
                  go_wp2
                  go_meet
                  case rel => exact ⟨_, (true), (by first | rfl | (simp; done) | (simp [*]; done)), H', ⟨by first | omega | exact Nat.le_refl _⟩, ⟨by repeat (first | (with_reducible first | exact HB.out | apply below_alloc | apply pw_below_drewN | apply below_drew1) | exact HB.out)⟩⟩
                · rw [if_neg c18] at H
                  have c18b0 : decide (t204 < 1) = false := decide_eq_false c18
                  clear c18
                  have H' := Aside0.mk H
                  clear H
                  go_wp2
                  go_meet
                  case rel => exact ⟨_, (decide (t204 > 7)), (by first | rfl | (simp; done) | (simp [*]; done)), H', ⟨by first | omega | exact Nat.le_refl _⟩, ⟨by repeat (first | (with_reducible first | exact HB.out | apply below_alloc | apply pw_below_drewN | apply below_drew1) | exact HB.out)⟩⟩
              · rw [if_neg c17] at H
                have c17b0 : (t205 == 0) = false := beq_eq_false_iff_ne.mpr c17
                have c17b1 : (t205 != 0) = true := bne_iff_ne.mpr c17
                have H' := Aside0.mk H
                clear H
                go_wp2
                go_meet
                case rel => exact ⟨_, (true), (by first | rfl | (simp; done) | (simp [*]; done)), H', ⟨by first | omega | exact Nat.le_refl _⟩, ⟨by repeat (first | (with_reducible first | exact HB.out | apply below_alloc | apply pw_below_drewN | apply below_drew1) | exact HB.out)⟩⟩
            · rw [if_neg c16] at H
              have c16b0 : (t203 == 0) = false := beq_eq_false_iff_ne.mpr c16
              have c16b1 : (t203 != 0) = true := bne_iff_ne.mpr c16
              have H' := Aside0.mk H
              clear H
              go_wp2
              go_meet
              case rel => exact ⟨_, (true), (by first | rfl | (simp; done) | (simp [*]; done)), H', ⟨by first | omega | exact Nat.le_refl _⟩, ⟨by repeat (first | (with_reducible first | exact HB.out | apply below_alloc | apply pw_below_drewN | apply below_drew1) | exact HB.out)⟩⟩
          · rw [if_neg c15] at H
            have c15b0 : (t200 == a2) = false := beq_eq_false_iff_ne.mpr c15
            have c15b1 : (t200 != a2) = true := bne_iff_ne.mpr c15
            have H' := Aside0.mk H
            clear H
            go_wp2
            go_meet
            case rel => exact ⟨_, (true), (by first | rfl | (simp; done) | (simp [*]; done)), H', ⟨by first | omega | exact Nat.le_refl _⟩, ⟨by repeat (first | (with_reducible first | exact HB.out | apply below_alloc | apply pw_below_drewN | apply below_drew1) | exact HB.out)⟩⟩
        · rw [if_neg c14] at H
          have c14b0 : (t201 == 0) = false := beq_eq_false_iff_ne.mpr c14
          have c14b1 : (t201 != 0) = true := bne_iff_ne.mpr c14
          (first | rw [c14b0] | (simp only [i64_w, i32_w]; rw [c14b0]) | skip)
          have H' := Aside0.mk H
          clear H
          go_wp2
          go_meet
          case rel => exact ⟨_, (true), (by first | rfl | (simp; done) | (simp [*]; done)), H', ⟨by first | omega | exact Nat.le_refl _⟩, ⟨by repeat (first | (with_reducible first | exact HB.out | apply below_alloc | apply pw_below_drewN | apply below_drew1) | exact HB.out)⟩⟩
      case rest =>
        clear HC12
        try clear c1
        try clear p2
        try clear c5
        try clear c6
        try clear c8
        try clear c8b0
        try clear c8b1
        try clear c12
        try clear c14
        try clear c14b0
        try clear c14b1
        try clear c15
        try clear c15b0
        try clear c15b1
        try clear c16
        try clear c16b0
        try clear c16b1
        try clear c17
        try clear c17b0
        try clear c17b1
        try clear c18
        try clear c18b0
        obtain ⟨kq, x73_11, rfl, HA, HJ11, HB⟩ := hcut
        cases kq with
        | zero => exact absurd HA.out (by simp [bellmanlaw05_CivilNth.j0])
        | succ kj11 =>
          have H := HA.out
          clear HA
          simp only [bellmanlaw05_CivilNth.j0] at H
          by_cases c19 : x73_11 = true
          · subst c19
            have H1 : (some false) = some r := by rw [if_pos rfl] at H; exact H
            clear H
            have H := H1
            clear H1
            exact absurd ((Option.some.inj H).trans hTr.out) (by decide)
          · replace c19 := Bool.eq_false_iff.mpr c19
            subst c19
            have H1 : (if a3 = 5 then (if (wrap64 (t198 + 7)) > t202 then (some (decide (t198 ≤ t202))) else (some false)) else (some (t198 == (wrap64 (t204 + (wrap64 (7 * (wrap64 (a3 - 1))))))))) = some r := by rw [if_neg (show ¬ (false = true) by decide)] at H; exact H
            clear H
            have H := H1
            clear H1
            by_cases c20 : a3 = 5
            · rw [if_pos c20] at H
              have c20b0 : (a3 == 5) = true := beq_iff_eq.mpr c20
              have c20b1 : (a3 != 5) = false := bne_eq_false_iff_eq.mpr c20
              clear c20
              by_cases c21 : (wrap64 (t198 + 7)) > t202
              · rw [if_pos c21] at H
                have c21b0 : decide (t202 < (wrap64 (t198 + 7))) = true := decide_eq_true c21
                clear c21
                obtain rfl := Option.some.inj H
                go_wp2
                go_ret
                exact ⟨by first | rfl | (simp [errW_none, errW_some] <;> rfl) | (simp [*, errW_none, errW_some] <;> rfl), by repeat (first | (with_reducible first | exact HB.out | apply below_alloc | apply pw_below_drewN | apply below_drew1) | exact HB.out)⟩
              · rw [if_neg c21] at H
                have c21b0 : decide (t202 < (wrap64 (t198 + 7))) = false := decide_eq_false c21
                clear c21
                exact absurd ((Option.some.inj H).trans hTr.out) (by decide)
            · rw [if_neg c20] at H
              have c20b0 : (a3 == 5) = false := beq_eq_false_iff_ne.mpr c20
              have c20b1 : (a3 != 5) = true := bne_iff_ne.mpr c20
              obtain rfl := Option.some.inj H
              go_wp2
              go_ret
              exact ⟨by first | rfl | (simp [errW_none, errW_some] <;> rfl) | (simp [*, errW_none, errW_some] <;> rfl), by repeat (first | (with_reducible first | exact HB.out | apply below_alloc | apply pw_below_drewN | apply below_drew1) | exact HB.out)⟩
    · rw [if_neg c8] at H
      have c8b0 : (t199 == 0) = false := beq_eq_false_iff_ne.mpr c8
      have c8b1 : (t199 != 0) = true := bne_iff_ne.mpr c8
      obtain rfl := Option.some.inj H
      go_enter Tryd.func5, Tryd.ntmps5
      go_wp2_with (first | ((with_reducible refine gate_callee (f := 18) rfl ?_); refine goesL_ (some 17) rfl rfl Tryd.func18 (by kernel_rfl) rfl #[] rfl (by (try simp only [List.map_toArray, List.map_cons, List.map_nil]); first | done | rfl | (simp only [List.length_drop, List.length_take]; rfl)) ?_; (with_reducible refine (bellmanlaw05_lives.calls k  true _ A5.out (Aside0.mk rfl) (by first | exact hGlb | exact Glob.drewN hGlb _ | exact Glob.drewN (Glob.drewN hGlb _) _ | exact Glob.below hGlb (by repeat (first | (with_reducible first | exact HB.out | apply below_alloc | apply pw_below_drewN | apply below_drew1) | exact HB.out)) | (with_unfolding_all exact hGlb))).mono ?_); rintro e w22 ⟨rfl, hb⟩; refine ⟨_, rfl, ?_⟩; have n0_ := Aside0.mk (below_step (by repeat (first | (with_reducible first | exact HB.out | apply below_alloc | apply pw_below_drewN | apply below_drew1) | exact HB.out)) hb); clear HB; have HB := n0_; clear n0_; (try clear hb); (try clear hb2); (try clear hk); (try clear hi)) | ((with_reducible refine gate_callee (f := 16) rfl ?_); refine goesL_ (some 24) rfl rfl Tryd.func16 (by kernel_rfl) rfl #[.int .i64 a0, .int .i64 a1, .int .i64 a2, .int .i64 a3] rfl (by (try simp only [List.map_toArray, List.map_cons, List.map_nil]); first | done | rfl | (simp only [List.length_drop, List.length_take]; rfl)) ?_; (with_reducible refine (civil_Nth.calls k a0 a1 a2 a3 t198 t199 _ A7.out (by first | exact hGlb | exact Glob.drewN hGlb _ | exact Glob.drewN (Glob.drewN hGlb _) _ | exact Glob.below hGlb (by repeat (first | (with_reducible first | exact HB.out | apply below_alloc | apply pw_below_drewN | apply below_drew1) | exact HB.out)) | (with_unfolding_all exact hGlb))).mono ?_); rintro e w' ⟨rfl, ⟨nd, rfl⟩⟩; refine ⟨_, rfl, ?_⟩))
      go_ret
      exact ⟨by first | rfl | (simp [errW_none, errW_some] <;> rfl) | (simp [*, errW_none, errW_some] <;> rfl), by repeat (first | (with_reducible first | exact HB.out | apply below_alloc | apply pw_below_drewN | apply below_drew1) | exact HB.out)⟩
  · replace c6 := Bool.eq_false_iff.mpr c6
    subst c6
    have H1 : (some false) = some r := by rw [if_neg (show ¬ (false = true) by decide)] at H; exact H
    clear H
    have H := H1
    clear H1
    exact absurd ((Option.some.inj H).trans hTr.out) (by decide)

/-- THE ONE PURE STATEMENT of bellmanlaw05_CivilNth: yours. -/
def bellmanlaw05_CivilNth.Pure : Prop := ∀ (a0 : Int) (a1 : Int) (a2 : Int) (a3 : Int), (Lit.int .i64 a0).wf = true → (Lit.int .i64 a1).wf = true → (Lit.int .i64 a2).wf = true → (Lit.int .i64 a3).wf = true → ∃ k, bellmanlaw05_CivilNth.f k a0 a1 a2 a3 = some true
theorem bellmanlaw05_CivilNth.walk (P : bellmanlaw05_CivilNth.Pure) (a0 : Int) (a1 : Int) (a2 : Int) (a3 : Int) (w : World) (w0 : (Lit.int .i64 a0).wf = true) (w1 : (Lit.int .i64 a1).wf = true) (w2 : (Lit.int .i64 a2).wf = true) (w3 : (Lit.int .i64 a3).wf = true) (hGlb : Glob w) :
    Calls Tryd.prog 5 #[.int .i64 a0, .int .i64 a1, .int .i64 a2, .int .i64 a3] w fun e w' => e = .returned (.bool true) ∧ Below w.heap.size w w' := by
  obtain ⟨k, h⟩ := P a0 a1 a2 a3 w0 w1 w2 w3
  refine (bellmanlaw05_CivilNth.calls k a0 a1 a2 a3 true w h (Aside0.mk rfl) (by first | exact hGlb | exact Glob.drewN hGlb _ | exact Glob.drewN (Glob.drewN hGlb _) _ | exact Glob.below hGlb (by repeat (first | (with_reducible first | exact HB.out | apply below_alloc | apply pw_below_drewN | apply below_drew1) | exact HB.out)) | (with_unfolding_all exact hGlb))).mono ?_
  rintro e w' ⟨rfl, hd⟩
  exact ⟨rfl, hd⟩

/-! ### zone_right: function 77 -/
def zone_right.f (a0_0 : Int) (a0_1 : Int) (a0_2 : Int) (a0_3 : Int) : Option (Bool) := if a0_0 ≥ 1 then (if a0_0 ≤ 12 then (if a0_1 ≥ 1 then (if a0_1 ≤ 5 then (if a0_2 ≥ 0 then (if a0_2 ≤ 6 then (if a0_3 ≥ 0 then (some (decide (a0_3 < 1440))) else (some false)) else (some false)) else (some false)) else (some false)) else (some false)) else (some false)) else (some false)
set_option maxHeartbeats 8000000 in
set_option maxRecDepth 100000 in
theorem zone_right.calls (a0_0 : Int) (a0_1 : Int) (a0_2 : Int) (a0_3 : Int) (r : Bool) (w : World) (h : zone_right.f a0_0 a0_1 a0_2 a0_3 = some r) :
    Calls Tryd.prog 77 #[.agg #[.int .i64 a0_0, .int .i64 a0_1, .int .i64 a0_2, .int .i64 a0_3]] w fun e w' => e = .returned (.bool r) ∧ Below w.heap.size w w' := by
  have hu42 := Tryd.underlying42
  have HB := Aside0.mk (Below.refl w.heap.size w)
  have H : (if a0_0 ≥ 1 then (if a0_0 ≤ 12 then (if a0_1 ≥ 1 then (if a0_1 ≤ 5 then (if a0_2 ≥ 0 then (if a0_2 ≤ 6 then (if a0_3 ≥ 0 then (some (decide (a0_3 < 1440))) else (some false)) else (some false)) else (some false)) else (some false)) else (some false)) else (some false)) else (some false)) = some r := h
  clear h
  by_cases c2 : a0_0 ≥ 1
  · rw [if_pos c2] at H
    have c2b0 : decide (1 ≤ a0_0) = true := decide_eq_true c2
    clear c2
    by_cases c3 : a0_0 ≤ 12
    · rw [if_pos c3] at H
      have c3b0 : decide (a0_0 ≤ 12) = true := decide_eq_true c3
      clear c3
      by_cases c4 : a0_1 ≥ 1
      · rw [if_pos c4] at H
        have c4b0 : decide (1 ≤ a0_1) = true := decide_eq_true c4
        clear c4
        by_cases c5 : a0_1 ≤ 5
        · rw [if_pos c5] at H
          have c5b0 : decide (a0_1 ≤ 5) = true := decide_eq_true c5
          clear c5
          by_cases c6 : a0_2 ≥ 0
          · rw [if_pos c6] at H
            have c6b0 : decide (0 ≤ a0_2) = true := decide_eq_true c6
            clear c6
            by_cases c7 : a0_2 ≤ 6
            · rw [if_pos c7] at H
              have c7b0 : decide (a0_2 ≤ 6) = true := decide_eq_true c7
              clear c7
              by_cases c8 : a0_3 ≥ 0
              · rw [if_pos c8] at H
                have c8b0 : decide (0 ≤ a0_3) = true := decide_eq_true c8
                clear c8
                obtain rfl := Option.some.inj H
                go_enter Tryd.func77, Tryd.ntmps77
                go_wp2_with (first | ((with_reducible refine gate_dst (N := 1) rfl ?_); refine box_event ?hg (N := 1) ?hd (cs := #[.int .i64 a0_0, .int .i64 a0_1, .int .i64 a0_2, .int .i64 a0_3]) (t := 42) ?hr ?_; (case hd => rfl); (case hg => rfl); (case hr => first | (go_simp; done) | (go_simp; rfl)); intro gb206 hg w9 hbox hb; have n0_ := Aside0.mk (below_step (by repeat (first | (with_reducible first | exact HB.out | apply below_alloc | apply pw_below_drewN | apply below_drew1) | exact HB.out)) hb); have n1_ := Aside0.mk (hbox); have n2_ := Aside0.mk ((by rw [hg]; exact (below_size (by repeat (first | (with_reducible first | exact HB.out | apply below_alloc | apply pw_below_drewN | apply below_drew1) | exact HB.out))) : w.heap.size ≤ gb206)); have n3_ := Aside0.mk ((by rw [hg]; exact (below_size (by repeat (first | (with_reducible first | exact HB.out | apply below_alloc | apply pw_below_drewN | apply below_drew1) | exact HB.out))) : w.heap.size ≤ gb206)); clear HB; have HB := n0_; have BK206 := n1_; have GW206 := n2_; have GE206 := n3_; clear n0_ n1_ n2_ n3_; clear hb hbox hg; have hcz10_0 : w9.cell? ⟨gb206, 0, none⟩ = some (.int .i64 a0_0) := (blk_cell BK206.out 0).trans rfl; have hcz10_1 : w9.cell? ⟨gb206, 1, none⟩ = some (.int .i64 a0_1) := (blk_cell BK206.out 1).trans rfl; have hcz10_2 : w9.cell? ⟨gb206, 2, none⟩ = some (.int .i64 a0_2) := (blk_cell BK206.out 2).trans rfl; have hcz10_3 : w9.cell? ⟨gb206, 3, none⟩ = some (.int .i64 a0_3) := (blk_cell BK206.out 3).trans rfl; have hfz10_0 := blk_frozen BK206.out 0; have hfz10_1 := blk_frozen BK206.out 1; have hfz10_2 := blk_frozen BK206.out 2; have hfz10_3 := blk_frozen BK206.out 3))
                go_ret
                exact ⟨by first | rfl | (simp [errW_none, errW_some] <;> rfl) | (simp [*, errW_none, errW_some] <;> rfl), by repeat (first | (with_reducible first | exact HB.out | apply below_alloc | apply pw_below_drewN | apply below_drew1 | refine below_set ?_ GE206.out) | exact HB.out)⟩
              · rw [if_neg c8] at H
                have c8b0 : decide (0 ≤ a0_3) = false := decide_eq_false c8
                clear c8
                obtain rfl := Option.some.inj H
                go_enter Tryd.func77, Tryd.ntmps77
                go_wp2_with (first | ((with_reducible refine gate_dst (N := 1) rfl ?_); refine box_event ?hg (N := 1) ?hd (cs := #[.int .i64 a0_0, .int .i64 a0_1, .int .i64 a0_2, .int .i64 a0_3]) (t := 42) ?hr ?_; (case hd => rfl); (case hg => rfl); (case hr => first | (go_simp; done) | (go_simp; rfl)); intro gb206 hg w11 hbox hb; have n0_ := Aside0.mk (below_step (by repeat (first | (with_reducible first | exact HB.out | apply below_alloc | apply pw_below_drewN | apply below_drew1) | exact HB.out)) hb); have n1_ := Aside0.mk (hbox); have n2_ := Aside0.mk ((by rw [hg]; exact (below_size (by repeat (first | (with_reducible first | exact HB.out | apply below_alloc | apply pw_below_drewN | apply below_drew1) | exact HB.out))) : w.heap.size ≤ gb206)); have n3_ := Aside0.mk ((by rw [hg]; exact (below_size (by repeat (first | (with_reducible first | exact HB.out | apply below_alloc | apply pw_below_drewN | apply below_drew1) | exact HB.out))) : w.heap.size ≤ gb206)); clear HB; have HB := n0_; have BK206 := n1_; have GW206 := n2_; have GE206 := n3_; clear n0_ n1_ n2_ n3_; clear hb hbox hg; have hcz12_0 : w11.cell? ⟨gb206, 0, none⟩ = some (.int .i64 a0_0) := (blk_cell BK206.out 0).trans rfl; have hcz12_1 : w11.cell? ⟨gb206, 1, none⟩ = some (.int .i64 a0_1) := (blk_cell BK206.out 1).trans rfl; have hcz12_2 : w11.cell? ⟨gb206, 2, none⟩ = some (.int .i64 a0_2) := (blk_cell BK206.out 2).trans rfl; have hcz12_3 : w11.cell? ⟨gb206, 3, none⟩ = some (.int .i64 a0_3) := (blk_cell BK206.out 3).trans rfl; have hfz12_0 := blk_frozen BK206.out 0; have hfz12_1 := blk_frozen BK206.out 1; have hfz12_2 := blk_frozen BK206.out 2; have hfz12_3 := blk_frozen BK206.out 3))
                go_ret
                exact ⟨by first | rfl | (simp [errW_none, errW_some] <;> rfl) | (simp [*, errW_none, errW_some] <;> rfl), by repeat (first | (with_reducible first | exact HB.out | apply below_alloc | apply pw_below_drewN | apply below_drew1 | refine below_set ?_ GE206.out) | exact HB.out)⟩
            · rw [if_neg c7] at H
              have c7b0 : decide (a0_2 ≤ 6) = false := decide_eq_false c7
              clear c7
              obtain rfl := Option.some.inj H
              go_enter Tryd.func77, Tryd.ntmps77
              go_wp2_with (first | ((with_reducible refine gate_dst (N := 1) rfl ?_); refine box_event ?hg (N := 1) ?hd (cs := #[.int .i64 a0_0, .int .i64 a0_1, .int .i64 a0_2, .int .i64 a0_3]) (t := 42) ?hr ?_; (case hd => rfl); (case hg => rfl); (case hr => first | (go_simp; done) | (go_simp; rfl)); intro gb206 hg w13 hbox hb; have n0_ := Aside0.mk (below_step (by repeat (first | (with_reducible first | exact HB.out | apply below_alloc | apply pw_below_drewN | apply below_drew1) | exact HB.out)) hb); have n1_ := Aside0.mk (hbox); have n2_ := Aside0.mk ((by rw [hg]; exact (below_size (by repeat (first | (with_reducible first | exact HB.out | apply below_alloc | apply pw_below_drewN | apply below_drew1) | exact HB.out))) : w.heap.size ≤ gb206)); have n3_ := Aside0.mk ((by rw [hg]; exact (below_size (by repeat (first | (with_reducible first | exact HB.out | apply below_alloc | apply pw_below_drewN | apply below_drew1) | exact HB.out))) : w.heap.size ≤ gb206)); clear HB; have HB := n0_; have BK206 := n1_; have GW206 := n2_; have GE206 := n3_; clear n0_ n1_ n2_ n3_; clear hb hbox hg; have hcz14_0 : w13.cell? ⟨gb206, 0, none⟩ = some (.int .i64 a0_0) := (blk_cell BK206.out 0).trans rfl; have hcz14_1 : w13.cell? ⟨gb206, 1, none⟩ = some (.int .i64 a0_1) := (blk_cell BK206.out 1).trans rfl; have hcz14_2 : w13.cell? ⟨gb206, 2, none⟩ = some (.int .i64 a0_2) := (blk_cell BK206.out 2).trans rfl; have hcz14_3 : w13.cell? ⟨gb206, 3, none⟩ = some (.int .i64 a0_3) := (blk_cell BK206.out 3).trans rfl; have hfz14_0 := blk_frozen BK206.out 0; have hfz14_1 := blk_frozen BK206.out 1; have hfz14_2 := blk_frozen BK206.out 2; have hfz14_3 := blk_frozen BK206.out 3))
              go_ret
              exact ⟨by first | rfl | (simp [errW_none, errW_some] <;> rfl) | (simp [*, errW_none, errW_some] <;> rfl), by repeat (first | (with_reducible first | exact HB.out | apply below_alloc | apply pw_below_drewN | apply below_drew1 | refine below_set ?_ GE206.out) | exact HB.out)⟩
          · rw [if_neg c6] at H
            have c6b0 : decide (0 ≤ a0_2) = false := decide_eq_false c6
            clear c6
            obtain rfl := Option.some.inj H
            go_enter Tryd.func77, Tryd.ntmps77
            go_wp2_with (first | ((with_reducible refine gate_dst (N := 1) rfl ?_); refine box_event ?hg (N := 1) ?hd (cs := #[.int .i64 a0_0, .int .i64 a0_1, .int .i64 a0_2, .int .i64 a0_3]) (t := 42) ?hr ?_; (case hd => rfl); (case hg => rfl); (case hr => first | (go_simp; done) | (go_simp; rfl)); intro gb206 hg w15 hbox hb; have n0_ := Aside0.mk (below_step (by repeat (first | (with_reducible first | exact HB.out | apply below_alloc | apply pw_below_drewN | apply below_drew1) | exact HB.out)) hb); have n1_ := Aside0.mk (hbox); have n2_ := Aside0.mk ((by rw [hg]; exact (below_size (by repeat (first | (with_reducible first | exact HB.out | apply below_alloc | apply pw_below_drewN | apply below_drew1) | exact HB.out))) : w.heap.size ≤ gb206)); have n3_ := Aside0.mk ((by rw [hg]; exact (below_size (by repeat (first | (with_reducible first | exact HB.out | apply below_alloc | apply pw_below_drewN | apply below_drew1) | exact HB.out))) : w.heap.size ≤ gb206)); clear HB; have HB := n0_; have BK206 := n1_; have GW206 := n2_; have GE206 := n3_; clear n0_ n1_ n2_ n3_; clear hb hbox hg; have hcz16_0 : w15.cell? ⟨gb206, 0, none⟩ = some (.int .i64 a0_0) := (blk_cell BK206.out 0).trans rfl; have hcz16_1 : w15.cell? ⟨gb206, 1, none⟩ = some (.int .i64 a0_1) := (blk_cell BK206.out 1).trans rfl; have hcz16_2 : w15.cell? ⟨gb206, 2, none⟩ = some (.int .i64 a0_2) := (blk_cell BK206.out 2).trans rfl; have hcz16_3 : w15.cell? ⟨gb206, 3, none⟩ = some (.int .i64 a0_3) := (blk_cell BK206.out 3).trans rfl; have hfz16_0 := blk_frozen BK206.out 0; have hfz16_1 := blk_frozen BK206.out 1; have hfz16_2 := blk_frozen BK206.out 2; have hfz16_3 := blk_frozen BK206.out 3))
            go_ret
            exact ⟨by first | rfl | (simp [errW_none, errW_some] <;> rfl) | (simp [*, errW_none, errW_some] <;> rfl), by repeat (first | (with_reducible first | exact HB.out | apply below_alloc | apply pw_below_drewN | apply below_drew1 | refine below_set ?_ GE206.out) | exact HB.out)⟩
        · rw [if_neg c5] at H
          have c5b0 : decide (a0_1 ≤ 5) = false := decide_eq_false c5
          clear c5
          obtain rfl := Option.some.inj H
          go_enter Tryd.func77, Tryd.ntmps77
          go_wp2_with (first | ((with_reducible refine gate_dst (N := 1) rfl ?_); refine box_event ?hg (N := 1) ?hd (cs := #[.int .i64 a0_0, .int .i64 a0_1, .int .i64 a0_2, .int .i64 a0_3]) (t := 42) ?hr ?_; (case hd => rfl); (case hg => rfl); (case hr => first | (go_simp; done) | (go_simp; rfl)); intro gb206 hg w17 hbox hb; have n0_ := Aside0.mk (below_step (by repeat (first | (with_reducible first | exact HB.out | apply below_alloc | apply pw_below_drewN | apply below_drew1) | exact HB.out)) hb); have n1_ := Aside0.mk (hbox); have n2_ := Aside0.mk ((by rw [hg]; exact (below_size (by repeat (first | (with_reducible first | exact HB.out | apply below_alloc | apply pw_below_drewN | apply below_drew1) | exact HB.out))) : w.heap.size ≤ gb206)); have n3_ := Aside0.mk ((by rw [hg]; exact (below_size (by repeat (first | (with_reducible first | exact HB.out | apply below_alloc | apply pw_below_drewN | apply below_drew1) | exact HB.out))) : w.heap.size ≤ gb206)); clear HB; have HB := n0_; have BK206 := n1_; have GW206 := n2_; have GE206 := n3_; clear n0_ n1_ n2_ n3_; clear hb hbox hg; have hcz18_0 : w17.cell? ⟨gb206, 0, none⟩ = some (.int .i64 a0_0) := (blk_cell BK206.out 0).trans rfl; have hcz18_1 : w17.cell? ⟨gb206, 1, none⟩ = some (.int .i64 a0_1) := (blk_cell BK206.out 1).trans rfl; have hcz18_2 : w17.cell? ⟨gb206, 2, none⟩ = some (.int .i64 a0_2) := (blk_cell BK206.out 2).trans rfl; have hcz18_3 : w17.cell? ⟨gb206, 3, none⟩ = some (.int .i64 a0_3) := (blk_cell BK206.out 3).trans rfl; have hfz18_0 := blk_frozen BK206.out 0; have hfz18_1 := blk_frozen BK206.out 1; have hfz18_2 := blk_frozen BK206.out 2; have hfz18_3 := blk_frozen BK206.out 3))
          go_ret
          exact ⟨by first | rfl | (simp [errW_none, errW_some] <;> rfl) | (simp [*, errW_none, errW_some] <;> rfl), by repeat (first | (with_reducible first | exact HB.out | apply below_alloc | apply pw_below_drewN | apply below_drew1 | refine below_set ?_ GE206.out) | exact HB.out)⟩
      · rw [if_neg c4] at H
        have c4b0 : decide (1 ≤ a0_1) = false := decide_eq_false c4
        clear c4
        obtain rfl := Option.some.inj H
        go_enter Tryd.func77, Tryd.ntmps77
        go_wp2_with (first | ((with_reducible refine gate_dst (N := 1) rfl ?_); refine box_event ?hg (N := 1) ?hd (cs := #[.int .i64 a0_0, .int .i64 a0_1, .int .i64 a0_2, .int .i64 a0_3]) (t := 42) ?hr ?_; (case hd => rfl); (case hg => rfl); (case hr => first | (go_simp; done) | (go_simp; rfl)); intro gb206 hg w19 hbox hb; have n0_ := Aside0.mk (below_step (by repeat (first | (with_reducible first | exact HB.out | apply below_alloc | apply pw_below_drewN | apply below_drew1) | exact HB.out)) hb); have n1_ := Aside0.mk (hbox); have n2_ := Aside0.mk ((by rw [hg]; exact (below_size (by repeat (first | (with_reducible first | exact HB.out | apply below_alloc | apply pw_below_drewN | apply below_drew1) | exact HB.out))) : w.heap.size ≤ gb206)); have n3_ := Aside0.mk ((by rw [hg]; exact (below_size (by repeat (first | (with_reducible first | exact HB.out | apply below_alloc | apply pw_below_drewN | apply below_drew1) | exact HB.out))) : w.heap.size ≤ gb206)); clear HB; have HB := n0_; have BK206 := n1_; have GW206 := n2_; have GE206 := n3_; clear n0_ n1_ n2_ n3_; clear hb hbox hg; have hcz20_0 : w19.cell? ⟨gb206, 0, none⟩ = some (.int .i64 a0_0) := (blk_cell BK206.out 0).trans rfl; have hcz20_1 : w19.cell? ⟨gb206, 1, none⟩ = some (.int .i64 a0_1) := (blk_cell BK206.out 1).trans rfl; have hcz20_2 : w19.cell? ⟨gb206, 2, none⟩ = some (.int .i64 a0_2) := (blk_cell BK206.out 2).trans rfl; have hcz20_3 : w19.cell? ⟨gb206, 3, none⟩ = some (.int .i64 a0_3) := (blk_cell BK206.out 3).trans rfl; have hfz20_0 := blk_frozen BK206.out 0; have hfz20_1 := blk_frozen BK206.out 1; have hfz20_2 := blk_frozen BK206.out 2; have hfz20_3 := blk_frozen BK206.out 3))
        go_ret
        exact ⟨by first | rfl | (simp [errW_none, errW_some] <;> rfl) | (simp [*, errW_none, errW_some] <;> rfl), by repeat (first | (with_reducible first | exact HB.out | apply below_alloc | apply pw_below_drewN | apply below_drew1 | refine below_set ?_ GE206.out) | exact HB.out)⟩
    · rw [if_neg c3] at H
      have c3b0 : decide (a0_0 ≤ 12) = false := decide_eq_false c3
      clear c3
      obtain rfl := Option.some.inj H
      go_enter Tryd.func77, Tryd.ntmps77
      go_wp2_with (first | ((with_reducible refine gate_dst (N := 1) rfl ?_); refine box_event ?hg (N := 1) ?hd (cs := #[.int .i64 a0_0, .int .i64 a0_1, .int .i64 a0_2, .int .i64 a0_3]) (t := 42) ?hr ?_; (case hd => rfl); (case hg => rfl); (case hr => first | (go_simp; done) | (go_simp; rfl)); intro gb206 hg w21 hbox hb; have n0_ := Aside0.mk (below_step (by repeat (first | (with_reducible first | exact HB.out | apply below_alloc | apply pw_below_drewN | apply below_drew1) | exact HB.out)) hb); have n1_ := Aside0.mk (hbox); have n2_ := Aside0.mk ((by rw [hg]; exact (below_size (by repeat (first | (with_reducible first | exact HB.out | apply below_alloc | apply pw_below_drewN | apply below_drew1) | exact HB.out))) : w.heap.size ≤ gb206)); have n3_ := Aside0.mk ((by rw [hg]; exact (below_size (by repeat (first | (with_reducible first | exact HB.out | apply below_alloc | apply pw_below_drewN | apply below_drew1) | exact HB.out))) : w.heap.size ≤ gb206)); clear HB; have HB := n0_; have BK206 := n1_; have GW206 := n2_; have GE206 := n3_; clear n0_ n1_ n2_ n3_; clear hb hbox hg; have hcz22_0 : w21.cell? ⟨gb206, 0, none⟩ = some (.int .i64 a0_0) := (blk_cell BK206.out 0).trans rfl; have hcz22_1 : w21.cell? ⟨gb206, 1, none⟩ = some (.int .i64 a0_1) := (blk_cell BK206.out 1).trans rfl; have hcz22_2 : w21.cell? ⟨gb206, 2, none⟩ = some (.int .i64 a0_2) := (blk_cell BK206.out 2).trans rfl; have hcz22_3 : w21.cell? ⟨gb206, 3, none⟩ = some (.int .i64 a0_3) := (blk_cell BK206.out 3).trans rfl; have hfz22_0 := blk_frozen BK206.out 0; have hfz22_1 := blk_frozen BK206.out 1; have hfz22_2 := blk_frozen BK206.out 2; have hfz22_3 := blk_frozen BK206.out 3))
      go_ret
      exact ⟨by first | rfl | (simp [errW_none, errW_some] <;> rfl) | (simp [*, errW_none, errW_some] <;> rfl), by repeat (first | (with_reducible first | exact HB.out | apply below_alloc | apply pw_below_drewN | apply below_drew1 | refine below_set ?_ GE206.out) | exact HB.out)⟩
  · rw [if_neg c2] at H
    have c2b0 : decide (1 ≤ a0_0) = false := decide_eq_false c2
    clear c2
    obtain rfl := Option.some.inj H
    go_enter Tryd.func77, Tryd.ntmps77
    go_wp2_with (first | ((with_reducible refine gate_dst (N := 1) rfl ?_); refine box_event ?hg (N := 1) ?hd (cs := #[.int .i64 a0_0, .int .i64 a0_1, .int .i64 a0_2, .int .i64 a0_3]) (t := 42) ?hr ?_; (case hd => rfl); (case hg => rfl); (case hr => first | (go_simp; done) | (go_simp; rfl)); intro gb206 hg w23 hbox hb; have n0_ := Aside0.mk (below_step (by repeat (first | (with_reducible first | exact HB.out | apply below_alloc | apply pw_below_drewN | apply below_drew1) | exact HB.out)) hb); have n1_ := Aside0.mk (hbox); have n2_ := Aside0.mk ((by rw [hg]; exact (below_size (by repeat (first | (with_reducible first | exact HB.out | apply below_alloc | apply pw_below_drewN | apply below_drew1) | exact HB.out))) : w.heap.size ≤ gb206)); have n3_ := Aside0.mk ((by rw [hg]; exact (below_size (by repeat (first | (with_reducible first | exact HB.out | apply below_alloc | apply pw_below_drewN | apply below_drew1) | exact HB.out))) : w.heap.size ≤ gb206)); clear HB; have HB := n0_; have BK206 := n1_; have GW206 := n2_; have GE206 := n3_; clear n0_ n1_ n2_ n3_; clear hb hbox hg; have hcz24_0 : w23.cell? ⟨gb206, 0, none⟩ = some (.int .i64 a0_0) := (blk_cell BK206.out 0).trans rfl; have hcz24_1 : w23.cell? ⟨gb206, 1, none⟩ = some (.int .i64 a0_1) := (blk_cell BK206.out 1).trans rfl; have hcz24_2 : w23.cell? ⟨gb206, 2, none⟩ = some (.int .i64 a0_2) := (blk_cell BK206.out 2).trans rfl; have hcz24_3 : w23.cell? ⟨gb206, 3, none⟩ = some (.int .i64 a0_3) := (blk_cell BK206.out 3).trans rfl; have hfz24_0 := blk_frozen BK206.out 0; have hfz24_1 := blk_frozen BK206.out 1; have hfz24_2 := blk_frozen BK206.out 2; have hfz24_3 := blk_frozen BK206.out 3))
    go_ret
    exact ⟨by first | rfl | (simp [errW_none, errW_some] <;> rfl) | (simp [*, errW_none, errW_some] <;> rfl), by repeat (first | (with_reducible first | exact HB.out | apply below_alloc | apply pw_below_drewN | apply below_drew1 | refine below_set ?_ GE206.out) | exact HB.out)⟩

/-! ### zone_apart: function 78 -/
def zone_apart.f (a0_0 : Int) (a0_1 : Int) (a0_2 : Int) (a0_3 : Int) (a0_4 : Int) (a0_5 : Int) (a0_6 : Int) (a0_7 : Int) (a0_8 : Int) (a0_9 : Int) : Option (Int) := some (Int.tmod (wrap64 ((wrap64 (a0_2 - a0_6)) + 12)) 12)
set_option maxHeartbeats 8000000 in
set_option maxRecDepth 100000 in
theorem zone_apart.calls (a0_0 : Int) (a0_1 : Int) (a0_2 : Int) (a0_3 : Int) (a0_4 : Int) (a0_5 : Int) (a0_6 : Int) (a0_7 : Int) (a0_8 : Int) (a0_9 : Int) (r : Int) (w : World) (h : zone_apart.f a0_0 a0_1 a0_2 a0_3 a0_4 a0_5 a0_6 a0_7 a0_8 a0_9 = some r) :
    Calls Tryd.prog 78 #[.agg #[.int .i64 a0_0, .int .i64 a0_1, .int .i64 a0_2, .int .i64 a0_3, .int .i64 a0_4, .int .i64 a0_5, .int .i64 a0_6, .int .i64 a0_7, .int .i64 a0_8, .int .i64 a0_9]] w fun e w' => e = .returned (.int .i64 r) ∧ Below w.heap.size w w' := by
  have hu44 := Tryd.underlying44
  have HB := Aside0.mk (Below.refl w.heap.size w)
  have H : (some (Int.tmod (wrap64 ((wrap64 (a0_2 - a0_6)) + 12)) 12)) = some r := h
  clear h
  obtain rfl := Option.some.inj H
  go_enter Tryd.func78, Tryd.ntmps78
  go_wp2_with (first | ((with_reducible refine gate_dst (N := 1) rfl ?_); refine box_event ?hg (N := 1) ?hd (cs := #[.int .i64 a0_0, .int .i64 a0_1, .int .i64 a0_2, .int .i64 a0_3, .int .i64 a0_4, .int .i64 a0_5, .int .i64 a0_6, .int .i64 a0_7, .int .i64 a0_8, .int .i64 a0_9]) (t := 44) ?hr ?_; (case hd => rfl); (case hg => rfl); (case hr => first | (go_simp; done) | (go_simp; rfl)); intro gb207 hg w2 hbox hb; have n0_ := Aside0.mk (below_step (by repeat (first | (with_reducible first | exact HB.out | apply below_alloc | apply pw_below_drewN | apply below_drew1) | exact HB.out)) hb); have n1_ := Aside0.mk (hbox); have n2_ := Aside0.mk ((by rw [hg]; exact (below_size (by repeat (first | (with_reducible first | exact HB.out | apply below_alloc | apply pw_below_drewN | apply below_drew1) | exact HB.out))) : w.heap.size ≤ gb207)); have n3_ := Aside0.mk ((by rw [hg]; exact (below_size (by repeat (first | (with_reducible first | exact HB.out | apply below_alloc | apply pw_below_drewN | apply below_drew1) | exact HB.out))) : w.heap.size ≤ gb207)); clear HB; have HB := n0_; have BK207 := n1_; have GW207 := n2_; have GE207 := n3_; clear n0_ n1_ n2_ n3_; clear hb hbox hg; have hcz3_0 : w2.cell? ⟨gb207, 0, none⟩ = some (.int .i64 a0_0) := (blk_cell BK207.out 0).trans rfl; have hcz3_1 : w2.cell? ⟨gb207, 1, none⟩ = some (.int .i64 a0_1) := (blk_cell BK207.out 1).trans rfl; have hcz3_2 : w2.cell? ⟨gb207, 2, none⟩ = some (.int .i64 a0_2) := (blk_cell BK207.out 2).trans rfl; have hcz3_3 : w2.cell? ⟨gb207, 3, none⟩ = some (.int .i64 a0_3) := (blk_cell BK207.out 3).trans rfl; have hcz3_4 : w2.cell? ⟨gb207, 4, none⟩ = some (.int .i64 a0_4) := (blk_cell BK207.out 4).trans rfl; have hcz3_5 : w2.cell? ⟨gb207, 5, none⟩ = some (.int .i64 a0_5) := (blk_cell BK207.out 5).trans rfl; have hcz3_6 : w2.cell? ⟨gb207, 6, none⟩ = some (.int .i64 a0_6) := (blk_cell BK207.out 6).trans rfl; have hcz3_7 : w2.cell? ⟨gb207, 7, none⟩ = some (.int .i64 a0_7) := (blk_cell BK207.out 7).trans rfl; have hcz3_8 : w2.cell? ⟨gb207, 8, none⟩ = some (.int .i64 a0_8) := (blk_cell BK207.out 8).trans rfl; have hcz3_9 : w2.cell? ⟨gb207, 9, none⟩ = some (.int .i64 a0_9) := (blk_cell BK207.out 9).trans rfl; have hfz3_0 := blk_frozen BK207.out 0; have hfz3_1 := blk_frozen BK207.out 1; have hfz3_2 := blk_frozen BK207.out 2; have hfz3_3 := blk_frozen BK207.out 3; have hfz3_4 := blk_frozen BK207.out 4; have hfz3_5 := blk_frozen BK207.out 5; have hfz3_6 := blk_frozen BK207.out 6; have hfz3_7 := blk_frozen BK207.out 7; have hfz3_8 := blk_frozen BK207.out 8; have hfz3_9 := blk_frozen BK207.out 9))
  go_ret
  exact ⟨by first | rfl | (simp [errW_none, errW_some] <;> rfl) | (simp [*, errW_none, errW_some] <;> rfl), by repeat (first | (with_reducible first | exact HB.out | apply below_alloc | apply pw_below_drewN | apply below_drew1 | refine below_set ?_ GE207.out) | exact HB.out)⟩

end Go.Proofs.YtcbdihhnoicabaaDoor.PX
