-- MADE BY xprint.py (this session's own driver; wip/tools) out of the translation. Not trusted: Lean checks it.
import Derived.Test.YtcbdihhnoicabaaDoorPEx0
import Derived.Test.YtcbdihhnoicabaaDoorPEx2
namespace Go.Proofs.YtcbdihhnoicabaaDoor.PE
open Go.RowKit Go.Proofs.YtcbdihhnoicabaaDoorW.PrintWords Go.Proofs.YtcbdihhnoicabaaDoorW.PrintLast Go.Proofs.YtcbdihhnoicabaaDoorW.PrintMore Go.Proofs.YtcbdihhnoicabaaDoor.Short Go.Proofs.YtcbdihhnoicabaaDoor.Esc
attribute [local go_sem] max2_int min2_int max_two min_two max_three min_three max_four min_four   -- for this text's walks alone
set_option linter.unusedVariables false
set_option linter.unusedSimpArgs false

/-! ### bellmanlaw13_EscParts: function 10 -/
def bellmanlaw13_EscParts.f (a0 : Int) (a1 : ByteArray) (a2 : ByteArray) : Option (Bool) := (bellmanlaw13_lives.f).bind fun t179 => (if t179 = true then (if a0 = 3 then (some true) else ((esc_To.f a0 a1).bind fun bt180 => ((esc_To.f a0 a2).bind fun bt182 => (if a1.size + a2.size ≤ 9223372036854775807 then ((esc_To.f a0 (a1 ++ a2)).bind fun bt184 => (if bt180.2 = bt182.2 then (if bt182.2 = bt184.2 then (if bt180.1.size + bt182.1.size ≤ 9223372036854775807 then (some (bt184.1.toList == (bt180.1 ++ bt182.1).toList)) else (none)) else (some false)) else (some false))) else (none))))) else (some false))
set_option maxHeartbeats 8000000 in
set_option maxRecDepth 100000 in
theorem bellmanlaw13_EscParts.calls (a0 : Int) (a1 : ByteArray) (a2 : ByteArray) (r : Bool) (w : World) (h : bellmanlaw13_EscParts.f a0 a1 a2 = some r) (hTr : Aside0 (r = true)) (hGlb : Glob w) :
  Calls Tryd.prog 10 #[.int .u8 a0, .string a1, .string a2] w fun e w' => e = .returned (.bool r) ∧ Below w.heap.size w w' := by
 have HB := Aside0.mk (Below.refl w.heap.size w)
 have H : ((bellmanlaw13_lives.f).bind fun t179 => (if t179 = true then (if a0 = 3 then (some true) else ((esc_To.f a0 a1).bind fun bt180 => ((esc_To.f a0 a2).bind fun bt182 => (if a1.size + a2.size ≤ 9223372036854775807 then ((esc_To.f a0 (a1 ++ a2)).bind fun bt184 => (if bt180.2 = bt182.2 then (if bt182.2 = bt184.2 then (if bt180.1.size + bt182.1.size ≤ 9223372036854775807 then (some (bt184.1.toList == (bt180.1 ++ bt182.1).toList)) else (none)) else (some false)) else (some false))) else (none))))) else (some false))) = some r := h
 clear h
 replace H := Option.bind_eq_some_iff.mp H
 obtain ⟨t179, A40, H⟩ := H
 (try dsimp only at H)
 have A4 := Aside0.mk A40
 clear A40
 by_cases c5 : t179 = true
 ·subst c5
  rw [if_pos rfl] at H
  by_cases c6 : a0 = 3
  ·rw [if_pos c6] at H
   have c6b0 : (a0 == 3) = true := beq_iff_eq.mpr c6
   have c6b1 : (a0 != 3) = false := bne_eq_false_iff_eq.mpr c6
   clear c6
   obtain rfl := Option.some.inj H
   go_enter Tryd.func10, Tryd.ntmps10
   go_wp2_with (first | ((with_reducible refine gate_callee (f := 24) rfl ?_); refine goesL_ (some 13) rfl rfl Tryd.func24 (by kernel_rfl) rfl #[] rfl (by (try simp only [List.map_toArray, List.map_cons, List.map_nil]); first | done | rfl) ?_; (with_reducible refine (bellmanlaw13_lives.calls  true _ A4.out (Aside0.mk rfl) (Glob.below hGlb (belS HB.out))).mono ?_); rintro e w7 ⟨rfl, hb⟩; refine ⟨_, rfl, ?_⟩; have n0_ := Aside0.mk (below_step (belS HB.out) hb); clear HB; have HB := n0_; clear n0_; (try clear hb); (try clear hb2); (try clear hk); (try clear hi)))
   go_ret
   exact ⟨by first | rfl | (simp [errW_none, errW_some] <;> rfl) | (simp [*, errW_none, errW_some] <;> rfl), belS HB.out⟩
  ·rw [if_neg c6] at H
   have c6b0 : (a0 == 3) = false := beq_eq_false_iff_ne.mpr c6
   have c6b1 : (a0 != 3) = true := bne_iff_ne.mpr c6
   replace H := Option.bind_eq_some_iff.mp H
   obtain ⟨⟨t180, t181⟩, A80, H⟩ := H
   (try dsimp only at H)
   have A8 := Aside0.mk A80
   clear A80
   replace H := Option.bind_eq_some_iff.mp H
   obtain ⟨⟨t182, t183⟩, A90, H⟩ := H
   (try dsimp only at H)
   have A9 := Aside0.mk A90
   clear A90
   by_cases c10 : a1.size + a2.size ≤ 9223372036854775807
   ·rw [if_pos c10] at H
    have c10b0 := eq_true c10
    have c10b1 : decide (a1.size + a2.size ≤ 9223372036854775807) = true := decide_eq_true c10
    try have c10b2 : (9223372036854775807 < a1.size + a2.size) = False := eq_false (Nat.not_lt.2 c10)
    replace H := Option.bind_eq_some_iff.mp H
    obtain ⟨⟨t184, t185⟩, A110, H⟩ := H
    (try dsimp only at H)
    have A11 := Aside0.mk A110
    clear A110
    by_cases c12 : t181 = t183
    ·rw [if_pos c12] at H
     have c12b0 : (t181 == t183) = true := beq_iff_eq.mpr c12
     have c12b1 : (t181 != t183) = false := bne_eq_false_iff_eq.mpr c12
     clear c12
     by_cases c13 : t183 = t185
     ·rw [if_pos c13] at H
      have c13b0 : (t183 == t185) = true := beq_iff_eq.mpr c13
      have c13b1 : (t183 != t185) = false := bne_eq_false_iff_eq.mpr c13
      clear c13
      by_cases c14 : t180.size + t182.size ≤ 9223372036854775807
      ·rw [if_pos c14] at H
       have c14b0 := eq_true c14
       have c14b1 : decide (t180.size + t182.size ≤ 9223372036854775807) = true := decide_eq_true c14
       try have c14b2 : (9223372036854775807 < t180.size + t182.size) = False := eq_false (Nat.not_lt.2 c14)
       obtain rfl := Option.some.inj H
       go_enter Tryd.func10, Tryd.ntmps10
       go_wp2_with (first | ((with_reducible refine gate_callee (f := 24) rfl ?_); refine goesL_ (some 13) rfl rfl Tryd.func24 (by kernel_rfl) rfl #[] rfl (by (try simp only [List.map_toArray, List.map_cons, List.map_nil]); first | done | rfl) ?_; (with_reducible refine (bellmanlaw13_lives.calls  true _ A4.out (Aside0.mk rfl) (Glob.below hGlb (belS HB.out))).mono ?_); rintro e w15 ⟨rfl, hb⟩; refine ⟨_, rfl, ?_⟩; have n0_ := Aside0.mk (below_step (belS HB.out) hb); clear HB; have HB := n0_; clear n0_; (try clear hb); (try clear hb2); (try clear hk); (try clear hi)) | ((with_reducible refine gate_callee (f := 20) rfl ?_); refine goesL_ (some 20) rfl rfl Tryd.func20 (by kernel_rfl) rfl #[.int .u8 a0, .string a1] rfl (by (try simp only [List.map_toArray, List.map_cons, List.map_nil]); first | done | rfl) ?_; (with_reducible refine (esc_To.calls a0 a1 t180 t181 _ A8.out).mono ?_); rintro e w16 ⟨rfl, hb⟩; refine ⟨_, rfl, ?_⟩; have n0_ := Aside0.mk (below_step (belS HB.out) hb); clear HB; have HB := n0_; clear n0_; (try clear hb); (try clear hb2); (try clear hk); (try clear hi)) | ((with_reducible refine gate_callee (f := 20) rfl ?_); refine goesL_ (some 26) rfl rfl Tryd.func20 (by kernel_rfl) rfl #[.int .u8 a0, .string a2] rfl (by (try simp only [List.map_toArray, List.map_cons, List.map_nil]); first | done | rfl) ?_; (with_reducible refine (esc_To.calls a0 a2 t182 t183 _ A9.out).mono ?_); rintro e w17 ⟨rfl, hb⟩; refine ⟨_, rfl, ?_⟩; have n0_ := Aside0.mk (below_step (belS HB.out) hb); clear HB; have HB := n0_; clear n0_; (try clear hb); (try clear hb2); (try clear hk); (try clear hi)) | ((with_reducible refine gate_callee (f := 20) rfl ?_); refine goesL_ (some 34) rfl rfl Tryd.func20 (by kernel_rfl) rfl #[.int .u8 a0, .string (a1 ++ a2)] rfl (by (try simp only [List.map_toArray, List.map_cons, List.map_nil]); first | done | rfl) ?_; (with_reducible refine (esc_To.calls a0 (a1 ++ a2) t184 t185 _ A11.out).mono ?_); rintro e w18 ⟨rfl, hb⟩; refine ⟨_, rfl, ?_⟩; have n0_ := Aside0.mk (below_step (belS HB.out) hb); clear HB; have HB := n0_; clear n0_; (try clear hb); (try clear hb2); (try clear hk); (try clear hi)))
       go_ret
       exact ⟨by first | rfl | (simp [errW_none, errW_some] <;> rfl) | (simp [*, errW_none, errW_some] <;> rfl), belS HB.out⟩
      ·rw [if_neg c14] at H
       exact absurd H (by simp)
     ·rw [if_neg c13] at H
      have c13b0 : (t183 == t185) = false := beq_eq_false_iff_ne.mpr c13
      have c13b1 : (t183 != t185) = true := bne_iff_ne.mpr c13
      exact absurd ((Option.some.inj H).trans hTr.out) (by decide)
    ·rw [if_neg c12] at H
     have c12b0 : (t181 == t183) = false := beq_eq_false_iff_ne.mpr c12
     have c12b1 : (t181 != t183) = true := bne_iff_ne.mpr c12
     exact absurd ((Option.some.inj H).trans hTr.out) (by decide)
   ·rw [if_neg c10] at H
    exact absurd H (by simp)
 ·replace c5 := Bool.eq_false_iff.mpr c5
  subst c5
  have H1 : (some false) = some r := by rw [if_neg (show ¬ (false = true) by decide)] at H; exact H
  clear H
  have H := H1
  clear H1
  exact absurd ((Option.some.inj H).trans hTr.out) (by decide)

/-- THE ONE PURE STATEMENT of bellmanlaw13_EscParts: yours. -/
def bellmanlaw13_EscParts.Pure : Prop := ∀ (a0 : Int) (a1 : ByteArray) (a2 : ByteArray), (Lit.int .u8 a0).wf = true → a1.size ≤ 140737488351232 → a2.size ≤ 140737488351232 → bellmanlaw13_EscParts.f a0 a1 a2 = some true
theorem bellmanlaw13_EscParts.walk (P : bellmanlaw13_EscParts.Pure) (a0 : Int) (a1 : ByteArray) (a2 : ByteArray) (w : World) (w0 : (Lit.int .u8 a0).wf = true) (w1 : a1.size ≤ 140737488351232) (w2 : a2.size ≤ 140737488351232) (hGlb : Glob w) :
  Calls Tryd.prog 10 #[.int .u8 a0, .string a1, .string a2] w fun e w' => e = .returned (.bool true) ∧ Below w.heap.size w w' := by
 have h := P a0 a1 a2 w0 w1 w2
 refine (bellmanlaw13_EscParts.calls a0 a1 a2 true w h (Aside0.mk rfl) (globS hGlb)).mono ?_
 rintro e w' ⟨rfl, hd⟩
 exact ⟨rfl, hd⟩

end Go.Proofs.YtcbdihhnoicabaaDoor.PE
