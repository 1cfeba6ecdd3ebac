-- MADE BY xprint.py (this session's own driver; wip/tools) out of the translation. Not trusted: Lean checks it.
import Derived.Test.YtcbdihhnoicabaaDoorPEx0
import Derived.Test.YtcbdihhnoicabaaDoorPEx2
namespace Go.Proofs.YtcbdihhnoicabaaDoor.PE
open Go.RowKit Go.Proofs.YtcbdihhnoicabaaDoorW.PrintWords Go.Proofs.YtcbdihhnoicabaaDoorW.PrintLast Go.Proofs.YtcbdihhnoicabaaDoorW.PrintMore Go.Proofs.YtcbdihhnoicabaaDoor.Short Go.Proofs.YtcbdihhnoicabaaDoor.Esc
attribute [local go_sem] max2_int min2_int max_two min_two max_three min_three max_four min_four   -- for this text's walks alone
set_option linter.unusedVariables false
set_option linter.unusedSimpArgs false

/-! ### bellmanref13_Name: function 28 -/
def bellmanref13_Name.f (a0 : Int) : Option (ByteArray × Int) := if a0 = 1 then (some ((⟨#[112, 117, 115, 104]⟩ : ByteArray), 0)) else (if a0 = 2 then (some ((⟨#[101, 109, 97, 105, 108]⟩ : ByteArray), 0)) else (if a0 = 3 then (some ((⟨#[115, 109, 115]⟩ : ByteArray), 0)) else (some ((⟨#[]⟩ : ByteArray), 1))))
set_option maxHeartbeats 8000000 in
set_option maxRecDepth 100000 in
theorem bellmanref13_Name.calls (a0 : Int) (r1 : ByteArray) (r2 : Int) (w : World) (h : bellmanref13_Name.f a0 = some (r1, r2)) :
  Calls Tryd.prog 28 #[.int .u8 a0] w fun e w' => e = .returned (.tuple #[.string r1, .int .i64 r2]) ∧ Drawn0 w w' := by
 have H : (if a0 = 1 then (some ((⟨#[112, 117, 115, 104]⟩ : ByteArray), 0)) else (if a0 = 2 then (some ((⟨#[101, 109, 97, 105, 108]⟩ : ByteArray), 0)) else (if a0 = 3 then (some ((⟨#[115, 109, 115]⟩ : ByteArray), 0)) else (some ((⟨#[]⟩ : ByteArray), 1))))) = some (r1, r2) := h
 clear h
 by_cases c2 : a0 = 1
 ·rw [if_pos c2] at H
  have c2b0 : (a0 == 1) = true := beq_iff_eq.mpr c2
  have c2b1 : (a0 != 1) = false := bne_eq_false_iff_eq.mpr c2
  clear c2
  simp only [Option.some.injEq, Prod.mk.injEq] at H
  obtain ⟨rfl, rfl⟩ := H
  go_enter Tryd.func28, Tryd.ntmps28
  go_wp2
  go_ret2
  exact ⟨by first | rfl | (simp; done) | (simp [*]; done), by repeat (first | exact Drawn0.refl _ | apply Drawn0.step)⟩
 ·rw [if_neg c2] at H
  have c2b0 : (a0 == 1) = false := beq_eq_false_iff_ne.mpr c2
  have c2b1 : (a0 != 1) = true := bne_iff_ne.mpr c2
  by_cases c3 : a0 = 2
  ·rw [if_pos c3] at H
   have c3b0 : (a0 == 2) = true := beq_iff_eq.mpr c3
   have c3b1 : (a0 != 2) = false := bne_eq_false_iff_eq.mpr c3
   clear c3
   simp only [Option.some.injEq, Prod.mk.injEq] at H
   obtain ⟨rfl, rfl⟩ := H
   go_enter Tryd.func28, Tryd.ntmps28
   go_wp2
   go_ret2
   exact ⟨by first | rfl | (simp; done) | (simp [*]; done), by repeat (first | exact Drawn0.refl _ | apply Drawn0.step)⟩
  ·rw [if_neg c3] at H
   have c3b0 : (a0 == 2) = false := beq_eq_false_iff_ne.mpr c3
   have c3b1 : (a0 != 2) = true := bne_iff_ne.mpr c3
   by_cases c4 : a0 = 3
   ·rw [if_pos c4] at H
    have c4b0 : (a0 == 3) = true := beq_iff_eq.mpr c4
    have c4b1 : (a0 != 3) = false := bne_eq_false_iff_eq.mpr c4
    clear c4
    simp only [Option.some.injEq, Prod.mk.injEq] at H
    obtain ⟨rfl, rfl⟩ := H
    go_enter Tryd.func28, Tryd.ntmps28
    go_wp2
    go_ret2
    exact ⟨by first | rfl | (simp; done) | (simp [*]; done), by repeat (first | exact Drawn0.refl _ | apply Drawn0.step)⟩
   ·rw [if_neg c4] at H
    have c4b0 : (a0 == 3) = false := beq_eq_false_iff_ne.mpr c4
    have c4b1 : (a0 != 3) = true := bne_iff_ne.mpr c4
    simp only [Option.some.injEq, Prod.mk.injEq] at H
    obtain ⟨rfl, rfl⟩ := H
    go_enter Tryd.func28, Tryd.ntmps28
    go_wp2
    go_ret2
    exact ⟨by first | rfl | (simp; done) | (simp [*]; done), by repeat (first | exact Drawn0.refl _ | apply Drawn0.step)⟩

/-! ### bellmanref13_Named: function 30 -/
def bellmanref13_Named.f (a0 : ByteArray) : Option (Int × Int) := if a0.toList = ([112, 117, 115, 104] : List UInt8) then (some (1, 0)) else (if a0.toList = ([101, 109, 97, 105, 108] : List UInt8) then (some (2, 0)) else (if a0.toList = ([115, 109, 115] : List UInt8) then (some (3, 0)) else (some (0, 13))))
set_option maxHeartbeats 8000000 in
set_option maxRecDepth 100000 in
theorem bellmanref13_Named.calls (a0 : ByteArray) (r1 : Int) (r2 : Int) (w : World) (h : bellmanref13_Named.f a0 = some (r1, r2)) :
  Calls Tryd.prog 30 #[.string a0] w fun e w' => e = .returned (.tuple #[.int .u8 r1, .int .i64 r2]) ∧ Drawn0 w w' := by
 have H : (if a0.toList = ([112, 117, 115, 104] : List UInt8) then (some (1, 0)) else (if a0.toList = ([101, 109, 97, 105, 108] : List UInt8) then (some (2, 0)) else (if a0.toList = ([115, 109, 115] : List UInt8) then (some (3, 0)) else (some (0, 13))))) = some (r1, r2) := h
 clear h
 by_cases c2 : a0.toList = ([112, 117, 115, 104] : List UInt8)
 ·rw [if_pos c2] at H
  have c2b0 : (a0.toList == ([112, 117, 115, 104] : List UInt8)) = true := beq_iff_eq.mpr c2
  have c2b1 : (a0.toList != ([112, 117, 115, 104] : List UInt8)) = false := bne_eq_false_iff_eq.mpr c2
  clear c2
  simp only [Option.some.injEq, Prod.mk.injEq] at H
  obtain ⟨rfl, rfl⟩ := H
  go_enter Tryd.func30, Tryd.ntmps30
  go_wp2
  go_ret2
  exact ⟨by first | rfl | (simp; done) | (simp [*]; done), by repeat (first | exact Drawn0.refl _ | apply Drawn0.step)⟩
 ·rw [if_neg c2] at H
  have c2b0 : (a0.toList == ([112, 117, 115, 104] : List UInt8)) = false := beq_eq_false_iff_ne.mpr c2
  have c2b1 : (a0.toList != ([112, 117, 115, 104] : List UInt8)) = true := bne_iff_ne.mpr c2
  by_cases c3 : a0.toList = ([101, 109, 97, 105, 108] : List UInt8)
  ·rw [if_pos c3] at H
   have c3b0 : (a0.toList == ([101, 109, 97, 105, 108] : List UInt8)) = true := beq_iff_eq.mpr c3
   have c3b1 : (a0.toList != ([101, 109, 97, 105, 108] : List UInt8)) = false := bne_eq_false_iff_eq.mpr c3
   clear c3
   simp only [Option.some.injEq, Prod.mk.injEq] at H
   obtain ⟨rfl, rfl⟩ := H
   go_enter Tryd.func30, Tryd.ntmps30
   go_wp2
   go_ret2
   exact ⟨by first | rfl | (simp; done) | (simp [*]; done), by repeat (first | exact Drawn0.refl _ | apply Drawn0.step)⟩
  ·rw [if_neg c3] at H
   have c3b0 : (a0.toList == ([101, 109, 97, 105, 108] : List UInt8)) = false := beq_eq_false_iff_ne.mpr c3
   have c3b1 : (a0.toList != ([101, 109, 97, 105, 108] : List UInt8)) = true := bne_iff_ne.mpr c3
   by_cases c4 : a0.toList = ([115, 109, 115] : List UInt8)
   ·rw [if_pos c4] at H
    have c4b0 : (a0.toList == ([115, 109, 115] : List UInt8)) = true := beq_iff_eq.mpr c4
    have c4b1 : (a0.toList != ([115, 109, 115] : List UInt8)) = false := bne_eq_false_iff_eq.mpr c4
    clear c4
    simp only [Option.some.injEq, Prod.mk.injEq] at H
    obtain ⟨rfl, rfl⟩ := H
    go_enter Tryd.func30, Tryd.ntmps30
    go_wp2
    go_ret2
    exact ⟨by first | rfl | (simp; done) | (simp [*]; done), by repeat (first | exact Drawn0.refl _ | apply Drawn0.step)⟩
   ·rw [if_neg c4] at H
    have c4b0 : (a0.toList == ([115, 109, 115] : List UInt8)) = false := beq_eq_false_iff_ne.mpr c4
    have c4b1 : (a0.toList != ([115, 109, 115] : List UInt8)) = true := bne_iff_ne.mpr c4
    simp only [Option.some.injEq, Prod.mk.injEq] at H
    obtain ⟨rfl, rfl⟩ := H
    go_enter Tryd.func30, Tryd.ntmps30
    go_wp2
    go_ret2
    exact ⟨by first | rfl | (simp; done) | (simp [*]; done), by repeat (first | exact Drawn0.refl _ | apply Drawn0.step)⟩

/-! ### bellmanlaw13_EscChannels: function 7 -/
def bellmanlaw13_EscChannels.f (a0 : Int) (a1 : ByteArray) : Option (Bool) := (esc_Most.f a0).bind fun bt154 => ((bellmanref13_Most.f a0).bind fun bt156 => ((esc_Name.f a0).bind fun bt158 => ((bellmanref13_Name.f a0).bind fun bt160 => ((esc_Named.f a1).bind fun bt162 => ((bellmanref13_Named.f a1).bind fun bt164 => ((bellmanlaw13_lives.f).bind fun t166 => (if t166 = true then (if bt154.1 = bt156.1 then (if bt154.2 = bt156.2 then (if bt158.1.toList = bt160.1.toList then (if bt158.2 = bt160.2 then (if bt162.1 = bt164.1 then (some (bt162.2 == bt164.2)) else (some false)) else (some false)) else (some false)) else (some false)) else (some false)) else (some false))))))))
set_option maxHeartbeats 8000000 in
set_option maxRecDepth 100000 in
theorem bellmanlaw13_EscChannels.calls (a0 : Int) (a1 : ByteArray) (r : Bool) (w : World) (h : bellmanlaw13_EscChannels.f a0 a1 = some r) (hTr : Aside0 (r = true)) (hGlb : Glob w) :
  Calls Tryd.prog 7 #[.int .u8 a0, .string a1] w fun e w' => e = .returned (.bool r) ∧ Below w.heap.size w w' := by
 have HB := Aside0.mk (Below.refl w.heap.size w)
 have H : ((esc_Most.f a0).bind fun bt154 => ((bellmanref13_Most.f a0).bind fun bt156 => ((esc_Name.f a0).bind fun bt158 => ((bellmanref13_Name.f a0).bind fun bt160 => ((esc_Named.f a1).bind fun bt162 => ((bellmanref13_Named.f a1).bind fun bt164 => ((bellmanlaw13_lives.f).bind fun t166 => (if t166 = true then (if bt154.1 = bt156.1 then (if bt154.2 = bt156.2 then (if bt158.1.toList = bt160.1.toList then (if bt158.2 = bt160.2 then (if bt162.1 = bt164.1 then (some (bt162.2 == bt164.2)) else (some false)) else (some false)) else (some false)) else (some false)) else (some false)) else (some false))))))))) = some r := h
 clear h
 replace H := Option.bind_eq_some_iff.mp H
 obtain ⟨⟨t154, t155⟩, A30, H⟩ := H
 (try dsimp only at H)
 have A3 := Aside0.mk A30
 clear A30
 replace H := Option.bind_eq_some_iff.mp H
 obtain ⟨⟨t156, t157⟩, A40, H⟩ := H
 (try dsimp only at H)
 have A4 := Aside0.mk A40
 clear A40
 replace H := Option.bind_eq_some_iff.mp H
 obtain ⟨⟨t158, t159⟩, A50, H⟩ := H
 (try dsimp only at H)
 have A5 := Aside0.mk A50
 clear A50
 replace H := Option.bind_eq_some_iff.mp H
 obtain ⟨⟨t160, t161⟩, A60, H⟩ := H
 (try dsimp only at H)
 have A6 := Aside0.mk A60
 clear A60
 replace H := Option.bind_eq_some_iff.mp H
 obtain ⟨⟨t162, t163⟩, A70, H⟩ := H
 (try dsimp only at H)
 have A7 := Aside0.mk A70
 clear A70
 replace H := Option.bind_eq_some_iff.mp H
 obtain ⟨⟨t164, t165⟩, A80, H⟩ := H
 (try dsimp only at H)
 have A8 := Aside0.mk A80
 clear A80
 replace H := Option.bind_eq_some_iff.mp H
 obtain ⟨t166, A90, H⟩ := H
 (try dsimp only at H)
 have A9 := Aside0.mk A90
 clear A90
 by_cases c10 : t166 = true
 ·subst c10
  rw [if_pos rfl] at H
  by_cases c11 : t154 = t156
  ·rw [if_pos c11] at H
   have c11b0 : (t154 == t156) = true := beq_iff_eq.mpr c11
   have c11b1 : (t154 != t156) = false := bne_eq_false_iff_eq.mpr c11
   clear c11
   by_cases c12 : t155 = t157
   ·rw [if_pos c12] at H
    have c12b0 : (t155 == t157) = true := beq_iff_eq.mpr c12
    have c12b1 : (t155 != t157) = false := bne_eq_false_iff_eq.mpr c12
    clear c12
    by_cases c13 : t158.toList = t160.toList
    ·rw [if_pos c13] at H
     have c13b0 : (t158.toList == t160.toList) = true := beq_iff_eq.mpr c13
     have c13b1 : (t158.toList != t160.toList) = false := bne_eq_false_iff_eq.mpr c13
     clear c13
     by_cases c14 : t159 = t161
     ·rw [if_pos c14] at H
      have c14b0 : (t159 == t161) = true := beq_iff_eq.mpr c14
      have c14b1 : (t159 != t161) = false := bne_eq_false_iff_eq.mpr c14
      clear c14
      by_cases c15 : t162 = t164
      ·rw [if_pos c15] at H
       have c15b0 : (t162 == t164) = true := beq_iff_eq.mpr c15
       have c15b1 : (t162 != t164) = false := bne_eq_false_iff_eq.mpr c15
       clear c15
       obtain rfl := Option.some.inj H
       go_enter Tryd.func7, Tryd.ntmps7
       go_wp2_with (first | ((with_reducible refine gate_callee (f := 25) rfl ?_); refine goesL_ (some 19) rfl rfl Tryd.func25 (by kernel_rfl) rfl #[.int .u8 a0] rfl (by (try simp only [List.map_toArray, List.map_cons, List.map_nil]); first | done | rfl) ?_; (with_reducible refine (esc_Most.calls a0 t154 t155 _ A3.out).mono ?_); rintro e w' ⟨rfl, ⟨nd, rfl⟩⟩; refine ⟨_, rfl, ?_⟩) | ((with_reducible refine gate_callee (f := 26) rfl ?_); refine goesL_ (some 24) rfl rfl Tryd.func26 (by kernel_rfl) rfl #[.int .u8 a0] rfl (by (try simp only [List.map_toArray, List.map_cons, List.map_nil]); first | done | rfl) ?_; (with_reducible refine (bellmanref13_Most.calls a0 t156 t157 _ A4.out).mono ?_); rintro e w' ⟨rfl, ⟨nd, rfl⟩⟩; refine ⟨_, rfl, ?_⟩) | ((with_reducible refine gate_callee (f := 27) rfl ?_); refine goesL_ (some 29) rfl rfl Tryd.func27 (by kernel_rfl) rfl #[.int .u8 a0] rfl (by (try simp only [List.map_toArray, List.map_cons, List.map_nil]); first | done | rfl) ?_; (with_reducible refine (esc_Name.calls a0 t158 t159 _ A5.out (Glob.below hGlb (belS HB.out))).mono ?_); rintro e w' ⟨rfl, ⟨nd, rfl⟩⟩; refine ⟨_, rfl, ?_⟩) | ((with_reducible refine gate_callee (f := 28) rfl ?_); refine goesL_ (some 34) rfl rfl Tryd.func28 (by kernel_rfl) rfl #[.int .u8 a0] rfl (by (try simp only [List.map_toArray, List.map_cons, List.map_nil]); first | done | rfl) ?_; (with_reducible refine (bellmanref13_Name.calls a0 t160 t161 _ A6.out).mono ?_); rintro e w' ⟨rfl, ⟨nd, rfl⟩⟩; refine ⟨_, rfl, ?_⟩) | ((with_reducible refine gate_callee (f := 29) rfl ?_); refine goesL_ (some 39) rfl rfl Tryd.func29 (by kernel_rfl) rfl #[.string a1] rfl (by (try simp only [List.map_toArray, List.map_cons, List.map_nil]); first | done | rfl) ?_; (with_reducible refine (esc_Named.calls a1 t162 t163 _ A7.out (Glob.below hGlb (belS HB.out))).mono ?_); rintro e w' ⟨rfl, ⟨nd, rfl⟩⟩; refine ⟨_, rfl, ?_⟩) | ((with_reducible refine gate_callee (f := 30) rfl ?_); refine goesL_ (some 44) rfl rfl Tryd.func30 (by kernel_rfl) rfl #[.string a1] rfl (by (try simp only [List.map_toArray, List.map_cons, List.map_nil]); first | done | rfl) ?_; (with_reducible refine (bellmanref13_Named.calls a1 t164 t165 _ A8.out).mono ?_); rintro e w' ⟨rfl, ⟨nd, rfl⟩⟩; refine ⟨_, rfl, ?_⟩) | ((with_reducible refine gate_callee (f := 24) rfl ?_); refine goesL_ (some 47) rfl rfl Tryd.func24 (by kernel_rfl) rfl #[] rfl (by (try simp only [List.map_toArray, List.map_cons, List.map_nil]); first | done | rfl) ?_; (with_reducible refine (bellmanlaw13_lives.calls  true _ A9.out (Aside0.mk rfl) (Glob.below hGlb (belS HB.out))).mono ?_); rintro e w16 ⟨rfl, hb⟩; refine ⟨_, rfl, ?_⟩; have n0_ := Aside0.mk (below_step (belS HB.out) hb); clear HB; have HB := n0_; clear n0_; (try clear hb); (try clear hb2); (try clear hk); (try clear hi)))
       go_ret
       exact ⟨by first | rfl | (simp [errW_none, errW_some] <;> rfl) | (simp [*, errW_none, errW_some] <;> rfl), belS HB.out⟩
      ·rw [if_neg c15] at H
       have c15b0 : (t162 == t164) = false := beq_eq_false_iff_ne.mpr c15
       have c15b1 : (t162 != t164) = true := bne_iff_ne.mpr c15
       exact absurd ((Option.some.inj H).trans hTr.out) (by decide)
     ·rw [if_neg c14] at H
      have c14b0 : (t159 == t161) = false := beq_eq_false_iff_ne.mpr c14
      have c14b1 : (t159 != t161) = true := bne_iff_ne.mpr c14
      exact absurd ((Option.some.inj H).trans hTr.out) (by decide)
    ·rw [if_neg c13] at H
     have c13b0 : (t158.toList == t160.toList) = false := beq_eq_false_iff_ne.mpr c13
     have c13b1 : (t158.toList != t160.toList) = true := bne_iff_ne.mpr c13
     exact absurd ((Option.some.inj H).trans hTr.out) (by decide)
   ·rw [if_neg c12] at H
    have c12b0 : (t155 == t157) = false := beq_eq_false_iff_ne.mpr c12
    have c12b1 : (t155 != t157) = true := bne_iff_ne.mpr c12
    exact absurd ((Option.some.inj H).trans hTr.out) (by decide)
  ·rw [if_neg c11] at H
   have c11b0 : (t154 == t156) = false := beq_eq_false_iff_ne.mpr c11
   have c11b1 : (t154 != t156) = true := bne_iff_ne.mpr c11
   exact absurd ((Option.some.inj H).trans hTr.out) (by decide)
 ·replace c10 := Bool.eq_false_iff.mpr c10
  subst c10
  have H1 : (some false) = some r := by rw [if_neg (show ¬ (false = true) by decide)] at H; exact H
  clear H
  have H := H1
  clear H1
  exact absurd ((Option.some.inj H).trans hTr.out) (by decide)

/-- THE ONE PURE STATEMENT of bellmanlaw13_EscChannels: yours. -/
def bellmanlaw13_EscChannels.Pure : Prop := ∀ (a0 : Int) (a1 : ByteArray), (Lit.int .u8 a0).wf = true → a1.size ≤ 140737488351232 → bellmanlaw13_EscChannels.f a0 a1 = some true
theorem bellmanlaw13_EscChannels.walk (P : bellmanlaw13_EscChannels.Pure) (a0 : Int) (a1 : ByteArray) (w : World) (w0 : (Lit.int .u8 a0).wf = true) (w1 : a1.size ≤ 140737488351232) (hGlb : Glob w) :
  Calls Tryd.prog 7 #[.int .u8 a0, .string a1] w fun e w' => e = .returned (.bool true) ∧ Below w.heap.size w w' := by
 have h := P a0 a1 w0 w1
 refine (bellmanlaw13_EscChannels.calls a0 a1 true w h (Aside0.mk rfl) (globS hGlb)).mono ?_
 rintro e w' ⟨rfl, hd⟩
 exact ⟨rfl, hd⟩

/-! ### bellmanlaw13_EscBack: function 8 -/
def bellmanlaw13_EscBack.j0 : Nat → Int → ByteArray → Bool → Option (Bool)
 | 0, _, _, _ => none
 | k + 1, x0, x2, x48 => if x48 = true then (some false) else ((esc_From.f x0 x2).bind fun bt172 => ((esc_To.f x0 bt172.1).bind fun bt174 => (if bt172.2 = 0 then (if bt174.2 = 0 then (some (bt174.1.toList == x2.toList)) else (some false)) else (if bt172.1.toList = ([] : List UInt8) then (some true) else (some false)))))
def bellmanlaw13_EscBack.f (k : Nat) (a0 : Int) (a1 : ByteArray) (a2 : ByteArray) : Option (Bool) := (bellmanlaw13_lives.f).bind fun t167 => (if t167 = true then ((esc_To.f a0 a1).bind fun bt168 => ((esc_From.f a0 bt168.1).bind fun bt170 => (if bt168.2 = 0 then (if bt170.2 = 0 then (if a0 = 3 then (bellmanlaw13_EscBack.j0 k a0 a2 false) else (bellmanlaw13_EscBack.j0 k a0 a2 (bt170.1.toList != a1.toList))) else (bellmanlaw13_EscBack.j0 k a0 a2 true)) else (if bt168.2 = 1 then (some (bt170.2 == bt168.2)) else (some false))))) else (some false))
theorem bellmanlaw13_EscBack.mono_l : ∀ k, (∀ y0 y1 y2, LeO (bellmanlaw13_EscBack.j0 k y0 y1 y2) (bellmanlaw13_EscBack.j0 (k + 1) y0 y1 y2))
 | 0 => fun _ _ _ r h => by simp [bellmanlaw13_EscBack.j0] at h
 | k + 1 => by
  have ih0 := bellmanlaw13_EscBack.mono_l k
  ·intro y0 y1 y2
   unfold bellmanlaw13_EscBack.j0
   repeat' first
   | (with_reducible exact ih0 _ _ _)
   | (with_reducible exact LeO.refl _)
   | (with_reducible exact LeO.none _)
   | (with_reducible refine LeO.ite ?_ ?_)
   | (with_reducible refine LeO.bind ?_ (fun _ => ?_))
   | exact ih0 _ _ _
   | exact LeO.none _
   | refine LeO.ite ?_ ?_
   | refine LeO.bind ?_ (fun _ => ?_)
theorem bellmanlaw13_EscBack.mono : ∀ a0 a1 a2 k, LeO (bellmanlaw13_EscBack.f k a0 a1 a2) (bellmanlaw13_EscBack.f (k + 1) a0 a1 a2) := by
 intro a0 a1 a2 k
 have ih0 := bellmanlaw13_EscBack.mono_l k
 unfold bellmanlaw13_EscBack.f
 repeat' first
   | (with_reducible exact ih0 _ _ _)
   | (with_reducible exact LeO.refl _)
   | (with_reducible exact LeO.none _)
   | (with_reducible refine LeO.ite ?_ ?_)
   | (with_reducible refine LeO.bind ?_ (fun _ => ?_))
   | exact ih0 _ _ _
   | exact LeO.none _
   | refine LeO.ite ?_ ?_
   | refine LeO.bind ?_ (fun _ => ?_)
set_option maxHeartbeats 8000000 in
set_option maxRecDepth 100000 in
theorem bellmanlaw13_EscBack.calls (k : Nat) (a0 : Int) (a1 : ByteArray) (a2 : ByteArray) (r : Bool) (w : World) (h : bellmanlaw13_EscBack.f k a0 a1 a2 = some r) (hTr : Aside0 (r = true)) (hGlb : Glob w) :
  Calls Tryd.prog 8 #[.int .u8 a0, .string a1, .string a2] w fun e w' => e = .returned (.bool r) ∧ Below w.heap.size w w' := by
 have HB := Aside0.mk (Below.refl w.heap.size w)
 have H : ((bellmanlaw13_lives.f).bind fun t167 => (if t167 = true then ((esc_To.f a0 a1).bind fun bt168 => ((esc_From.f a0 bt168.1).bind fun bt170 => (if bt168.2 = 0 then (if bt170.2 = 0 then (if a0 = 3 then (bellmanlaw13_EscBack.j0 k a0 a2 false) else (bellmanlaw13_EscBack.j0 k a0 a2 (bt170.1.toList != a1.toList))) else (bellmanlaw13_EscBack.j0 k a0 a2 true)) else (if bt168.2 = 1 then (some (bt170.2 == bt168.2)) else (some false))))) else (some false))) = some r := h
 clear h
 replace H := Option.bind_eq_some_iff.mp H
 obtain ⟨t167, A40, H⟩ := H
 (try dsimp only at H)
 have A4 := Aside0.mk A40
 clear A40
 by_cases c5 : t167 = true
 ·subst c5
  rw [if_pos rfl] at H
  replace H := Option.bind_eq_some_iff.mp H
  obtain ⟨⟨t168, t169⟩, A60, H⟩ := H
  (try dsimp only at H)
  have A6 := Aside0.mk A60
  clear A60
  replace H := Option.bind_eq_some_iff.mp H
  obtain ⟨⟨t170, t171⟩, A70, H⟩ := H
  (try dsimp only at H)
  have A7 := Aside0.mk A70
  clear A70
  by_cases c8 : t169 = 0
  ·rw [if_pos c8] at H
   have c8b0 : (t169 == 0) = true := beq_iff_eq.mpr c8
   have c8b1 : (t169 != 0) = false := bne_eq_false_iff_eq.mpr c8
   clear c8
   have HC9 := Aside0.mk H
   clear H
   go_enter Tryd.func8, Tryd.ntmps8
   go_upto_region 7 with (first | ((with_reducible refine gate_callee (f := 24) rfl ?_); refine goesL_ (some 15) rfl rfl Tryd.func24 (by kernel_rfl) rfl #[] rfl (by (try simp only [List.map_toArray, List.map_cons, List.map_nil]); first | done | rfl) ?_; (with_reducible refine (bellmanlaw13_lives.calls  true _ A4.out (Aside0.mk rfl) (Glob.below hGlb (belS HB.out))).mono ?_); rintro e w10 ⟨rfl, hb⟩; refine ⟨_, rfl, ?_⟩; have n0_ := Aside0.mk (below_step (belS HB.out) hb); clear HB; have HB := n0_; clear n0_; (try clear hb); (try clear hb2); (try clear hk); (try clear hi)) | ((with_reducible refine gate_callee (f := 20) rfl ?_); refine goesL_ (some 20) rfl rfl Tryd.func20 (by kernel_rfl) rfl #[.int .u8 a0, .string a1] rfl (by (try simp only [List.map_toArray, List.map_cons, List.map_nil]); first | done | rfl) ?_; (with_reducible refine (esc_To.calls a0 a1 t168 t169 _ A6.out).mono ?_); rintro e w11 ⟨rfl, hb⟩; refine ⟨_, rfl, ?_⟩; have n0_ := Aside0.mk (below_step (belS HB.out) hb); clear HB; have HB := n0_; clear n0_; (try clear hb); (try clear hb2); (try clear hk); (try clear hi)) | ((with_reducible refine gate_callee (f := 22) rfl ?_); refine goesL_ (some 26) rfl rfl Tryd.func22 (by kernel_rfl) rfl #[.int .u8 a0, .string t168] rfl (by (try simp only [List.map_toArray, List.map_cons, List.map_nil]); first | done | rfl) ?_; (with_reducible refine (esc_From.calls a0 t168 t170 t171 _ A7.out).mono ?_); rintro e w12 ⟨rfl, hb⟩; refine ⟨_, rfl, ?_⟩; have n0_ := Aside0.mk (below_step (belS HB.out) hb); clear HB; have HB := n0_; clear n0_; (try clear hb); (try clear hb2); (try clear hk); (try clear hi)))
   (try simp only [Act.put, List.setIfInBounds_toArray, List.set_cons_zero, List.set_cons_succ])
   go_cut [48] (fun v48 wc => ∃ (kq : Nat) (x48_8 : Bool), v48 = .bool x48_8 ∧ Aside0 (bellmanlaw13_EscBack.j0 kq a0 a2 x48_8 = some r) ∧ Aside0 (kq ≤ k) ∧ Aside0 (Below w.heap.size w wc))
   case first =>
    have H := HC9.out
    clear HC9
    by_cases c13 : t171 = 0
    ·rw [if_pos c13] at H
     have c13b0 : (t171 == 0) = true := beq_iff_eq.mpr c13
     have c13b1 : (t171 != 0) = false := bne_eq_false_iff_eq.mpr c13
     clear c13
     (first | rw [c13b0] | (simp only [i64_w, i32_w]; rw [c13b0]) | skip)
     by_cases c14 : a0 = 3
     ·rw [if_pos c14] at H
      have c14b0 : (a0 == 3) = true := beq_iff_eq.mpr c14
      have c14b1 : (a0 != 3) = false := bne_eq_false_iff_eq.mpr c14
      clear c14
      have H' := Aside0.mk H
      clear H
      go_wp2
      go_meet
      case rel => exact ⟨_, (false), (by first | rfl | (simp; done) | (simp [*]; done)), H', ⟨by first | omega | exact Nat.le_refl _⟩, ⟨belS HB.out⟩⟩
     ·rw [if_neg c14] at H
      have c14b0 : (a0 == 3) = false := beq_eq_false_iff_ne.mpr c14
      have c14b1 : (a0 != 3) = true := bne_iff_ne.mpr c14
      have H' := Aside0.mk H
      clear H
      go_wp2
      go_meet
      case rel => exact ⟨_, ((t170.toList != a1.toList)), (by first | rfl | (simp; done) | (simp [*]; done)), H', ⟨by first | omega | exact Nat.le_refl _⟩, ⟨belS HB.out⟩⟩
    ·rw [if_neg c13] at H
     have c13b0 : (t171 == 0) = false := beq_eq_false_iff_ne.mpr c13
     have c13b1 : (t171 != 0) = true := bne_iff_ne.mpr c13
     (first | rw [c13b0] | (simp only [i64_w, i32_w]; rw [c13b0]) | skip)
     have H' := Aside0.mk H
     clear H
     go_wp2
     go_meet
     case rel => exact ⟨_, (true), (by first | rfl | (simp; done) | (simp [*]; done)), H', ⟨by first | omega | exact Nat.le_refl _⟩, ⟨belS HB.out⟩⟩
   case rest =>
    clear HC9
    try clear c1
    try clear c2
    try clear p2
    try clear c5
    try clear c8
    try clear c8b0
    try clear c8b1
    try clear c13
    try clear c13b0
    try clear c13b1
    try clear c14
    try clear c14b0
    try clear c14b1
    obtain ⟨kq, x48_8, rfl, HA, HJ8, HB⟩ := hcut
    cases kq with
    | zero => exact absurd HA.out (by simp [bellmanlaw13_EscBack.j0])
    | succ kj8 =>
     have H := HA.out
     clear HA
     simp only [bellmanlaw13_EscBack.j0] at H
     by_cases c15 : x48_8 = true
     ·subst c15
      have H1 : (some false) = some r := by rw [if_pos rfl] at H; exact H
      clear H
      have H := H1
      clear H1
      exact absurd ((Option.some.inj H).trans hTr.out) (by decide)
     ·replace c15 := Bool.eq_false_iff.mpr c15
      subst c15
      rw [if_neg (show ¬ (false = true) by decide)] at H
      replace H := Option.bind_eq_some_iff.mp H
      obtain ⟨⟨t172, t173⟩, A160, H⟩ := H
      (try dsimp only at H)
      have A16 := Aside0.mk A160
      clear A160
      replace H := Option.bind_eq_some_iff.mp H
      obtain ⟨⟨t174, t175⟩, A170, H⟩ := H
      (try dsimp only at H)
      have A17 := Aside0.mk A170
      clear A170
      by_cases c18 : t173 = 0
      ·rw [if_pos c18] at H
       have c18b0 : (t173 == 0) = true := beq_iff_eq.mpr c18
       have c18b1 : (t173 != 0) = false := bne_eq_false_iff_eq.mpr c18
       clear c18
       by_cases c19 : t175 = 0
       ·rw [if_pos c19] at H
        have c19b0 : (t175 == 0) = true := beq_iff_eq.mpr c19
        have c19b1 : (t175 != 0) = false := bne_eq_false_iff_eq.mpr c19
        clear c19
        obtain rfl := Option.some.inj H
        go_wp2_with (first | ((with_reducible refine gate_callee (f := 22) rfl ?_); refine goesL_ (some 52) rfl rfl Tryd.func22 (by kernel_rfl) rfl #[.int .u8 a0, .string a2] rfl (by (try simp only [List.map_toArray, List.map_cons, List.map_nil]); first | done | rfl) ?_; (with_reducible refine (esc_From.calls a0 a2 t172 t173 _ A16.out).mono ?_); rintro e w20 ⟨rfl, hb⟩; refine ⟨_, rfl, ?_⟩; have n0_ := Aside0.mk (below_step (belS HB.out) hb); clear HB; have HB := n0_; clear n0_; (try clear hb); (try clear hb2); (try clear hk); (try clear hi)) | ((with_reducible refine gate_callee (f := 20) rfl ?_); refine goesL_ (some 58) rfl rfl Tryd.func20 (by kernel_rfl) rfl #[.int .u8 a0, .string t172] rfl (by (try simp only [List.map_toArray, List.map_cons, List.map_nil]); first | done | rfl) ?_; (with_reducible refine (esc_To.calls a0 t172 t174 t175 _ A17.out).mono ?_); rintro e w21 ⟨rfl, hb⟩; refine ⟨_, rfl, ?_⟩; have n0_ := Aside0.mk (below_step (belS HB.out) hb); clear HB; have HB := n0_; clear n0_; (try clear hb); (try clear hb2); (try clear hk); (try clear hi)))
        go_ret
        exact ⟨by first | rfl | (simp [errW_none, errW_some] <;> rfl) | (simp [*, errW_none, errW_some] <;> rfl), belS HB.out⟩
       ·rw [if_neg c19] at H
        have c19b0 : (t175 == 0) = false := beq_eq_false_iff_ne.mpr c19
        have c19b1 : (t175 != 0) = true := bne_iff_ne.mpr c19
        exact absurd ((Option.some.inj H).trans hTr.out) (by decide)
      ·rw [if_neg c18] at H
       have c18b0 : (t173 == 0) = false := beq_eq_false_iff_ne.mpr c18
       have c18b1 : (t173 != 0) = true := bne_iff_ne.mpr c18
       by_cases c22 : t172.toList = ([] : List UInt8)
       ·rw [if_pos c22] at H
        have c22b0 : (t172.toList == ([] : List UInt8)) = true := beq_iff_eq.mpr c22
        have c22b1 : (t172.toList != ([] : List UInt8)) = false := bne_eq_false_iff_eq.mpr c22
        clear c22
        obtain rfl := Option.some.inj H
        go_wp2_with (first | ((with_reducible refine gate_callee (f := 22) rfl ?_); refine goesL_ (some 52) rfl rfl Tryd.func22 (by kernel_rfl) rfl #[.int .u8 a0, .string a2] rfl (by (try simp only [List.map_toArray, List.map_cons, List.map_nil]); first | done | rfl) ?_; (with_reducible refine (esc_From.calls a0 a2 t172 t173 _ A16.out).mono ?_); rintro e w23 ⟨rfl, hb⟩; refine ⟨_, rfl, ?_⟩; have n0_ := Aside0.mk (below_step (belS HB.out) hb); clear HB; have HB := n0_; clear n0_; (try clear hb); (try clear hb2); (try clear hk); (try clear hi)) | ((with_reducible refine gate_callee (f := 20) rfl ?_); refine goesL_ (some 58) rfl rfl Tryd.func20 (by kernel_rfl) rfl #[.int .u8 a0, .string t172] rfl (by (try simp only [List.map_toArray, List.map_cons, List.map_nil]); first | done | rfl) ?_; (with_reducible refine (esc_To.calls a0 t172 t174 t175 _ A17.out).mono ?_); rintro e w24 ⟨rfl, hb⟩; refine ⟨_, rfl, ?_⟩; have n0_ := Aside0.mk (below_step (belS HB.out) hb); clear HB; have HB := n0_; clear n0_; (try clear hb); (try clear hb2); (try clear hk); (try clear hi)))
        go_ret
        exact ⟨by first | rfl | (simp [errW_none, errW_some] <;> rfl) | (simp [*, errW_none, errW_some] <;> rfl), belS HB.out⟩
       ·rw [if_neg c22] at H
        have c22b0 : (t172.toList == ([] : List UInt8)) = false := beq_eq_false_iff_ne.mpr c22
        have c22b1 : (t172.toList != ([] : List UInt8)) = true := bne_iff_ne.mpr c22
        exact absurd ((Option.some.inj H).trans hTr.out) (by decide)
  ·rw [if_neg c8] at H
   have c8b0 : (t169 == 0) = false := beq_eq_false_iff_ne.mpr c8
   have c8b1 : (t169 != 0) = true := bne_iff_ne.mpr c8
   by_cases c25 : t169 = 1
   ·rw [if_pos c25] at H
    have c25b0 : (t169 == 1) = true := beq_iff_eq.mpr c25
    have c25b1 : (t169 != 1) = false := bne_eq_false_iff_eq.mpr c25
    clear c25
    obtain rfl := Option.some.inj H
    go_enter Tryd.func8, Tryd.ntmps8
    go_wp2_with (first | ((with_reducible refine gate_callee (f := 24) rfl ?_); refine goesL_ (some 15) rfl rfl Tryd.func24 (by kernel_rfl) rfl #[] rfl (by (try simp only [List.map_toArray, List.map_cons, List.map_nil]); first | done | rfl) ?_; (with_reducible refine (bellmanlaw13_lives.calls  true _ A4.out (Aside0.mk rfl) (Glob.below hGlb (belS HB.out))).mono ?_); rintro e w26 ⟨rfl, hb⟩; refine ⟨_, rfl, ?_⟩; have n0_ := Aside0.mk (below_step (belS HB.out) hb); clear HB; have HB := n0_; clear n0_; (try clear hb); (try clear hb2); (try clear hk); (try clear hi)) | ((with_reducible refine gate_callee (f := 20) rfl ?_); refine goesL_ (some 20) rfl rfl Tryd.func20 (by kernel_rfl) rfl #[.int .u8 a0, .string a1] rfl (by (try simp only [List.map_toArray, List.map_cons, List.map_nil]); first | done | rfl) ?_; (with_reducible refine (esc_To.calls a0 a1 t168 t169 _ A6.out).mono ?_); rintro e w27 ⟨rfl, hb⟩; refine ⟨_, rfl, ?_⟩; have n0_ := Aside0.mk (below_step (belS HB.out) hb); clear HB; have HB := n0_; clear n0_; (try clear hb); (try clear hb2); (try clear hk); (try clear hi)) | ((with_reducible refine gate_callee (f := 22) rfl ?_); refine goesL_ (some 26) rfl rfl Tryd.func22 (by kernel_rfl) rfl #[.int .u8 a0, .string t168] rfl (by (try simp only [List.map_toArray, List.map_cons, List.map_nil]); first | done | rfl) ?_; (with_reducible refine (esc_From.calls a0 t168 t170 t171 _ A7.out).mono ?_); rintro e w28 ⟨rfl, hb⟩; refine ⟨_, rfl, ?_⟩; have n0_ := Aside0.mk (below_step (belS HB.out) hb); clear HB; have HB := n0_; clear n0_; (try clear hb); (try clear hb2); (try clear hk); (try clear hi)))
    go_ret
    exact ⟨by first | rfl | (simp [errW_none, errW_some] <;> rfl) | (simp [*, errW_none, errW_some] <;> rfl), belS HB.out⟩
   ·rw [if_neg c25] at H
    have c25b0 : (t169 == 1) = false := beq_eq_false_iff_ne.mpr c25
    have c25b1 : (t169 != 1) = true := bne_iff_ne.mpr c25
    exact absurd ((Option.some.inj H).trans hTr.out) (by decide)
 ·replace c5 := Bool.eq_false_iff.mpr c5
  subst c5
  have H1 : (some false) = some r := by rw [if_neg (show ¬ (false = true) by decide)] at H; exact H
  clear H
  have H := H1
  clear H1
  exact absurd ((Option.some.inj H).trans hTr.out) (by decide)

/-- THE ONE PURE STATEMENT of bellmanlaw13_EscBack: yours. -/
def bellmanlaw13_EscBack.Pure : Prop := ∀ (a0 : Int) (a1 : ByteArray) (a2 : ByteArray), (Lit.int .u8 a0).wf = true → a1.size ≤ 140737488351232 → a2.size ≤ 140737488351232 → ∃ k, bellmanlaw13_EscBack.f k a0 a1 a2 = some true
theorem bellmanlaw13_EscBack.walk (P : bellmanlaw13_EscBack.Pure) (a0 : Int) (a1 : ByteArray) (a2 : ByteArray) (w : World) (w0 : (Lit.int .u8 a0).wf = true) (w1 : a1.size ≤ 140737488351232) (w2 : a2.size ≤ 140737488351232) (hGlb : Glob w) :
  Calls Tryd.prog 8 #[.int .u8 a0, .string a1, .string a2] w fun e w' => e = .returned (.bool true) ∧ Below w.heap.size w w' := by
 obtain ⟨k, h⟩ := P a0 a1 a2 w0 w1 w2
 refine (bellmanlaw13_EscBack.calls k a0 a1 a2 true w h (Aside0.mk rfl) (globS hGlb)).mono ?_
 rintro e w' ⟨rfl, hd⟩
 exact ⟨rfl, hd⟩

/-! ### bellmanlaw13_EscSafe: function 9 -/
mutual
def bellmanlaw13_EscSafe.j0 : Nat → Int → ByteArray → Bool → Option (Bool)
 | 0, _, _, _ => none
 | k + 1, x0, x5, x40 => if x40 = true then (some false) else (bellmanlaw13_EscSafe.l0 k x0 x5 0)
def bellmanlaw13_EscSafe.l0 : Nat → Int → ByteArray → Int → Option (Bool)
 | 0, _, _, _ => none
 | k + 1, x0, x5, x7 => if x7 < (x5.size : Int) then (if 0 ≤ x7 then (if x0 = 1 then (if (bt x5 x7) < 32 then (some false) else (if (bt x5 x7) = 127 then (some false) else (if (bt x5 x7) = 34 then (if x7 = 0 then (some false) else (if 0 ≤ (wrap64 (x7 - 1)) then (if (wrap64 (x7 - 1)) < (x5.size : Int) then (if (bt x5 (wrap64 (x7 - 1))) = 92 then (bellmanlaw13_EscSafe.l0 k x0 x5 (wrap64 (x7 + 1))) else (some false)) else (none)) else (none))) else (bellmanlaw13_EscSafe.l0 k x0 x5 (wrap64 (x7 + 1)))))) else (if x0 = 2 then (if (bt x5 x7) = 60 then (some false) else (if (bt x5 x7) = 62 then (some false) else (if (bt x5 x7) = 34 then (some false) else (if (bt x5 x7) = 39 then (some false) else (bellmanlaw13_EscSafe.l0 k x0 x5 (wrap64 (x7 + 1))))))) else (if (bt x5 x7) < 32 then (some false) else (if (bt x5 x7) > 126 then (some false) else (bellmanlaw13_EscSafe.l0 k x0 x5 (wrap64 (x7 + 1))))))) else (none)) else (some true)
end
def bellmanlaw13_EscSafe.f (k : Nat) (a0 : Int) (a1 : ByteArray) : Option (Bool) := (bellmanlaw13_lives.f).bind fun t176 => (if t176 = true then ((esc_To.f a0 a1).bind fun bt177 => (if bt177.2 = 0 then (if a0 = 3 then (if (bt177.1.size : Int) > (a1.size : Int) then (bellmanlaw13_EscSafe.j0 k a0 bt177.1 true) else (bellmanlaw13_EscSafe.j0 k a0 bt177.1 false)) else (bellmanlaw13_EscSafe.j0 k a0 bt177.1 (decide ((bt177.1.size : Int) < (a1.size : Int))))) else (some (bt177.1.toList == ([] : List UInt8))))) else (some false))
theorem bellmanlaw13_EscSafe.mono_l : ∀ k, (∀ y0 y1 y2, LeO (bellmanlaw13_EscSafe.j0 k y0 y1 y2) (bellmanlaw13_EscSafe.j0 (k + 1) y0 y1 y2)) ∧ (∀ y0 y1 y2, LeO (bellmanlaw13_EscSafe.l0 k y0 y1 y2) (bellmanlaw13_EscSafe.l0 (k + 1) y0 y1 y2))
 | 0 => ⟨fun _ _ _ r h => by simp [bellmanlaw13_EscSafe.j0] at h, fun _ _ _ r h => by simp [bellmanlaw13_EscSafe.l0] at h⟩
 | k + 1 => by
  obtain ⟨ih0, ih1⟩ := bellmanlaw13_EscSafe.mono_l k
  refine ⟨?_, ?_⟩
  ·intro y0 y1 y2
   unfold bellmanlaw13_EscSafe.j0
   repeat' first
   | (with_reducible exact ih0 _ _ _)
   | (with_reducible exact ih1 _ _ _)
   | (with_reducible exact LeO.refl _)
   | (with_reducible exact LeO.none _)
   | (with_reducible refine LeO.ite ?_ ?_)
   | (with_reducible refine LeO.bind ?_ (fun _ => ?_))
   | exact ih0 _ _ _
   | exact ih1 _ _ _
   | exact LeO.none _
   | refine LeO.ite ?_ ?_
   | refine LeO.bind ?_ (fun _ => ?_)
  ·intro y0 y1 y2
   unfold bellmanlaw13_EscSafe.l0
   repeat' first
   | (with_reducible exact ih0 _ _ _)
   | (with_reducible exact ih1 _ _ _)
   | (with_reducible exact LeO.refl _)
   | (with_reducible exact LeO.none _)
   | (with_reducible refine LeO.ite ?_ ?_)
   | (with_reducible refine LeO.bind ?_ (fun _ => ?_))
   | exact ih0 _ _ _
   | exact ih1 _ _ _
   | exact LeO.none _
   | refine LeO.ite ?_ ?_
   | refine LeO.bind ?_ (fun _ => ?_)
theorem bellmanlaw13_EscSafe.mono : ∀ a0 a1 k, LeO (bellmanlaw13_EscSafe.f k a0 a1) (bellmanlaw13_EscSafe.f (k + 1) a0 a1) := by
 intro a0 a1 k
 obtain ⟨ih0, ih1⟩ := bellmanlaw13_EscSafe.mono_l k
 unfold bellmanlaw13_EscSafe.f
 repeat' first
   | (with_reducible exact ih0 _ _ _)
   | (with_reducible exact ih1 _ _ _)
   | (with_reducible exact LeO.refl _)
   | (with_reducible exact LeO.none _)
   | (with_reducible refine LeO.ite ?_ ?_)
   | (with_reducible refine LeO.bind ?_ (fun _ => ?_))
   | exact ih0 _ _ _
   | exact ih1 _ _ _
   | exact LeO.none _
   | refine LeO.ite ?_ ?_
   | refine LeO.bind ?_ (fun _ => ?_)
set_option maxHeartbeats 8000000 in
set_option maxRecDepth 100000 in
theorem bellmanlaw13_EscSafe.calls (k : Nat) (a0 : Int) (a1 : ByteArray) (r : Bool) (w : World) (h : bellmanlaw13_EscSafe.f k a0 a1 = some r) (hTr : Aside0 (r = true)) (hGlb : Glob w) :
  Calls Tryd.prog 9 #[.int .u8 a0, .string a1] w fun e w' => e = .returned (.bool r) ∧ Below w.heap.size w w' := by
 have HB := Aside0.mk (Below.refl w.heap.size w)
 have H : ((bellmanlaw13_lives.f).bind fun t176 => (if t176 = true then ((esc_To.f a0 a1).bind fun bt177 => (if bt177.2 = 0 then (if a0 = 3 then (if (bt177.1.size : Int) > (a1.size : Int) then (bellmanlaw13_EscSafe.j0 k a0 bt177.1 true) else (bellmanlaw13_EscSafe.j0 k a0 bt177.1 false)) else (bellmanlaw13_EscSafe.j0 k a0 bt177.1 (decide ((bt177.1.size : Int) < (a1.size : Int))))) else (some (bt177.1.toList == ([] : List UInt8))))) else (some false))) = some r := h
 clear h
 replace H := Option.bind_eq_some_iff.mp H
 obtain ⟨t176, A30, H⟩ := H
 (try dsimp only at H)
 have A3 := Aside0.mk A30
 clear A30
 by_cases c4 : t176 = true
 ·subst c4
  rw [if_pos rfl] at H
  replace H := Option.bind_eq_some_iff.mp H
  obtain ⟨⟨t177, t178⟩, A50, H⟩ := H
  (try dsimp only at H)
  have A5 := Aside0.mk A50
  clear A50
  by_cases c6 : t178 = 0
  ·rw [if_pos c6] at H
   have c6b0 : (t178 == 0) = true := beq_iff_eq.mpr c6
   have c6b1 : (t178 != 0) = false := bne_eq_false_iff_eq.mpr c6
   clear c6
   have HC7 := Aside0.mk H
   clear H
   go_enter Tryd.func9, Tryd.ntmps9
   go_upto_region 6 with (first | ((with_reducible refine gate_callee (f := 24) rfl ?_); refine goesL_ (some 9) rfl rfl Tryd.func24 (by kernel_rfl) rfl #[] rfl (by (try simp only [List.map_toArray, List.map_cons, List.map_nil]); first | done | rfl) ?_; (with_reducible refine (bellmanlaw13_lives.calls  true _ A3.out (Aside0.mk rfl) (Glob.below hGlb (belS HB.out))).mono ?_); rintro e w8 ⟨rfl, hb⟩; refine ⟨_, rfl, ?_⟩; have n0_ := Aside0.mk (below_step (belS HB.out) hb); clear HB; have HB := n0_; clear n0_; (try clear hb); (try clear hb2); (try clear hk); (try clear hi)) | ((with_reducible refine gate_callee (f := 20) rfl ?_); refine goesL_ (some 14) rfl rfl Tryd.func20 (by kernel_rfl) rfl #[.int .u8 a0, .string a1] rfl (by (try simp only [List.map_toArray, List.map_cons, List.map_nil]); first | done | rfl) ?_; (with_reducible refine (esc_To.calls a0 a1 t177 t178 _ A5.out).mono ?_); rintro e w9 ⟨rfl, hb⟩; refine ⟨_, rfl, ?_⟩; have n0_ := Aside0.mk (below_step (belS HB.out) hb); clear HB; have HB := n0_; clear n0_; (try clear hb); (try clear hb2); (try clear hk); (try clear hi)))
   (try simp only [Act.put, List.setIfInBounds_toArray, List.set_cons_zero, List.set_cons_succ])
   go_cut [40] (fun v40 wc => ∃ (kq : Nat) (x40_6 : Bool), v40 = .bool x40_6 ∧ Aside0 (bellmanlaw13_EscSafe.j0 kq a0 t177 x40_6 = some r) ∧ Aside0 (kq ≤ k) ∧ Aside0 (Below w.heap.size w wc))
   case first =>
    have H := HC7.out
    clear HC7
    by_cases c10 : a0 = 3
    ·rw [if_pos c10] at H
     have c10b0 : (a0 == 3) = true := beq_iff_eq.mpr c10
     have c10b1 : (a0 != 3) = false := bne_eq_false_iff_eq.mpr c10
     clear c10
     (first | rw [c10b0] | (simp only [i64_w, i32_w]; rw [c10b0]) | skip)
     by_cases c11 : (t177.size : Int) > (a1.size : Int)
     ·rw [if_pos c11] at H
      have c11b0 : decide ((a1.size : Int) < (t177.size : Int)) = true := decide_eq_true c11
      have c11b1 : decide (a1.size < t177.size) = true := decide_eq_true (Int.ofNat_lt.mp c11)
      clear c11
      have H' := Aside0.mk H
      clear H
      go_wp2
      go_meet
      case rel => exact ⟨_, (true), (by first | rfl | (simp; done) | (simp [*]; done)), H', ⟨by first | omega | exact Nat.le_refl _⟩, ⟨belS HB.out⟩⟩
     ·rw [if_neg c11] at H
      have c11b0 : decide ((a1.size : Int) < (t177.size : Int)) = false := decide_eq_false c11
      have c11b1 : decide (a1.size < t177.size) = false := decide_eq_false (fun h => c11 (Int.ofNat_lt.mpr h))
      clear c11
      have H' := Aside0.mk H
      clear H
      go_wp2
      go_meet
      case rel => exact ⟨_, (false), (by first | rfl | (simp; done) | (simp [*]; done)), H', ⟨by first | omega | exact Nat.le_refl _⟩, ⟨belS HB.out⟩⟩
    ·rw [if_neg c10] at H
     have c10b0 : (a0 == 3) = false := beq_eq_false_iff_ne.mpr c10
     have c10b1 : (a0 != 3) = true := bne_iff_ne.mpr c10
     (first | rw [c10b0] | (simp only [i64_w, i32_w]; rw [c10b0]) | skip)
     have H' := Aside0.mk H
     clear H
     go_wp2
     go_meet
     case rel => exact ⟨_, (decide ((t177.size : Int) < (a1.size : Int))), (by first | rfl | (simp; done) | (simp [*]; done)), H', ⟨by first | omega | exact Nat.le_refl _⟩, ⟨belS HB.out⟩⟩
   case rest =>
    clear HC7
    try clear c1
    try clear c2
    try clear p2
    try clear c4
    try clear c6
    try clear c6b0
    try clear c6b1
    try clear c9
    try clear c10
    try clear c10b0
    try clear c10b1
    try clear c11
    try clear c11b0
    try clear c11b1
    obtain ⟨kq, x40_6, rfl, HA, HJ6, HB⟩ := hcut
    cases kq with
    | zero => exact absurd HA.out (by simp [bellmanlaw13_EscSafe.j0])
    | succ kj6 =>
     have H := HA.out
     clear HA
     simp only [bellmanlaw13_EscSafe.j0] at H
     by_cases c12 : x40_6 = true
     ·subst c12
      have H1 : (some false) = some r := by rw [if_pos rfl] at H; exact H
      clear H
      have H := H1
      clear H1
      exact absurd ((Option.some.inj H).trans hTr.out) (by decide)
     ·replace c12 := Bool.eq_false_iff.mpr c12
      subst c12
      have H1 : (bellmanlaw13_EscSafe.l0 kj6 a0 t177 0) = some r := by rw [if_neg (show ¬ (false = true) by decide)] at H; exact H
      clear H
      have H := H1
      clear H1
      have H' := Aside0.mk H
      clear H
      go_wp2
      go_loopg [7] kj6 (fun kq v7 w' => ∃ (x7_2 : Int), v7 = .int .i64 x7_2 ∧ Aside0 (bellmanlaw13_EscSafe.l0 kq a0 t177 x7_2 = some r) ∧ Aside0 (kq ≤ kj6) ∧ Aside0 (Below w.heap.size w w'))
      case atStart => exact ⟨(0), (by first | rfl | (simp; done) | (simp [*]; done)), H', ⟨Nat.le_refl _⟩, ⟨belS HB.out⟩⟩
      case round =>
       clear H'
       try clear c1
       try clear c2
       try clear p2
       try clear c4
       try clear c6
       try clear c6b0
       try clear c6b1
       try clear c9
       try clear c10
       try clear c10b0
       try clear c10b1
       try clear c11
       try clear c11b0
       try clear c11b1
       try clear c12
       try clear p2
       obtain ⟨x7_2, rfl, HA, HK2, HB⟩ := hrel
       cases gk with
       | zero => exact absurd HA.out (by simp [bellmanlaw13_EscSafe.l0])
       | succ k2 =>
        have H := HA.out
        clear HA
        simp only [bellmanlaw13_EscSafe.l0] at H
        by_cases c13 : x7_2 < (t177.size : Int)
        ·rw [if_pos c13] at H
         have c13b0 : decide (x7_2 < (t177.size : Int)) = true := decide_eq_true c13
         clear c13
         by_cases c14 : 0 ≤ x7_2
         ·rw [if_pos c14] at H
          have c14b0 : decide (0 ≤ x7_2) = true := decide_eq_true c14
          clear c14
          by_cases c16 : a0 = 1
          ·rw [if_pos c16] at H
           have c16b0 : (a0 == 1) = true := beq_iff_eq.mpr c16
           have c16b1 : (a0 != 1) = false := bne_eq_false_iff_eq.mpr c16
           clear c16
           by_cases c17 : (bt t177 x7_2) < 32
           ·rw [if_pos c17] at H
            have c17b0 : decide ((bt t177 x7_2) < 32) = true := decide_eq_true c17
            clear c17
            exact absurd ((Option.some.inj H).trans hTr.out) (by decide)
           ·rw [if_neg c17] at H
            have c17b0 : decide ((bt t177 x7_2) < 32) = false := decide_eq_false c17
            clear c17
            by_cases c18 : (bt t177 x7_2) = 127
            ·rw [if_pos c18] at H
             have c18b0 : ((bt t177 x7_2) == 127) = true := beq_iff_eq.mpr c18
             have c18b1 : ((bt t177 x7_2) != 127) = false := bne_eq_false_iff_eq.mpr c18
             clear c18
             exact absurd ((Option.some.inj H).trans hTr.out) (by decide)
            ·rw [if_neg c18] at H
             have c18b0 : ((bt t177 x7_2) == 127) = false := beq_eq_false_iff_ne.mpr c18
             have c18b1 : ((bt t177 x7_2) != 127) = true := bne_iff_ne.mpr c18
             by_cases c19 : (bt t177 x7_2) = 34
             ·rw [if_pos c19] at H
              have c19b0 : ((bt t177 x7_2) == 34) = true := beq_iff_eq.mpr c19
              have c19b1 : ((bt t177 x7_2) != 34) = false := bne_eq_false_iff_eq.mpr c19
              clear c19
              by_cases c20 : x7_2 = 0
              ·rw [if_pos c20] at H
               have c20b0 : (x7_2 == 0) = true := beq_iff_eq.mpr c20
               have c20b1 : (x7_2 != 0) = false := bne_eq_false_iff_eq.mpr c20
               clear c20
               exact absurd ((Option.some.inj H).trans hTr.out) (by decide)
              ·rw [if_neg c20] at H
               have c20b0 : (x7_2 == 0) = false := beq_eq_false_iff_ne.mpr c20
               have c20b1 : (x7_2 != 0) = true := bne_iff_ne.mpr c20
               obtain ⟨ji21, hji21⟩ : ∃ j_ : Int, (wrap64 (x7_2 - 1)) = j_ := ⟨_, rfl⟩
               replace H : (if 0 ≤ (ji21) then (if (ji21) < (t177.size : Int) then (if (bt t177 (ji21)) = 92 then (bellmanlaw13_EscSafe.l0 k2 a0 t177 (wrap64 (x7_2 + 1))) else (some false)) else (none)) else (none)) = some r := by first | (rw [hji21] at H; exact H) | (simp only [hji21] at H ⊢; exact H)
               have hji21w : (IntKind.i64.wrap (x7_2 - 1)) = ji21 := (i64_w _).trans hji21
               by_cases c22 : 0 ≤ (ji21)
               ·rw [if_pos c22] at H
                have c22b0 : decide (0 ≤ (ji21)) = true := decide_eq_true c22
                clear c22
                by_cases c23 : (ji21) < (t177.size : Int)
                ·rw [if_pos c23] at H
                 have c23b0 : decide ((ji21) < (t177.size : Int)) = true := decide_eq_true c23
                 clear c23
                 by_cases c25 : (bt t177 (ji21)) = 92
                 ·rw [if_pos c25] at H
                  have c25b0 : ((bt t177 (ji21)) == 92) = true := beq_iff_eq.mpr c25
                  have c25b1 : ((bt t177 (ji21)) != 92) = false := bne_eq_false_iff_eq.mpr c25
                  clear c25
                  have H' := Aside0.mk H
                  clear H
                  have p15 : 0 ≤ (x7_2 : Int) := of_decide_eq_true (by first | (with_reducible assumption) | assumption)
                  have q15 : x7_2 < (t177.size : Int) := of_decide_eq_true (by first | (with_reducible assumption) | assumption)
                  have hx15 := bt_at t177 x7_2
                  replace p15 := eq_true p15
                  replace q15 := eq_true q15
                  have p24 : 0 ≤ ((ji21) : Int) := of_decide_eq_true (by first | (with_reducible assumption) | assumption)
                  have q24 : (ji21) < (t177.size : Int) := of_decide_eq_true (by first | (with_reducible assumption) | assumption)
                  have hx24 := bt_at t177 (ji21)
                  replace p24 := eq_true p24
                  replace q24 := eq_true q24
                  go_wp2
                  go_roundg k2
                  case measure => have := HJ6.out; have := HK2.out; omega
                  case rel => exact ⟨(wrap64 (x7_2 + 1)), (by first | rfl | (simp; done) | (simp [*]; done)), H', ⟨by have := HJ6.out; have := HK2.out; omega⟩, ⟨belS HB.out⟩⟩
                 ·rw [if_neg c25] at H
                  have c25b0 : ((bt t177 (ji21)) == 92) = false := beq_eq_false_iff_ne.mpr c25
                  have c25b1 : ((bt t177 (ji21)) != 92) = true := bne_iff_ne.mpr c25
                  exact absurd ((Option.some.inj H).trans hTr.out) (by decide)
                ·rw [if_neg c23] at H
                 exact absurd H (by simp)
               ·rw [if_neg c22] at H
                exact absurd H (by simp)
             ·rw [if_neg c19] at H
              have c19b0 : ((bt t177 x7_2) == 34) = false := beq_eq_false_iff_ne.mpr c19
              have c19b1 : ((bt t177 x7_2) != 34) = true := bne_iff_ne.mpr c19
              have H' := Aside0.mk H
              clear H
              have p15 : 0 ≤ (x7_2 : Int) := of_decide_eq_true (by first | (with_reducible assumption) | assumption)
              have q15 : x7_2 < (t177.size : Int) := of_decide_eq_true (by first | (with_reducible assumption) | assumption)
              have hx15 := bt_at t177 x7_2
              replace p15 := eq_true p15
              replace q15 := eq_true q15
              go_wp2
              go_roundg k2
              case measure => have := HJ6.out; have := HK2.out; omega
              case rel => exact ⟨(wrap64 (x7_2 + 1)), (by first | rfl | (simp; done) | (simp [*]; done)), H', ⟨by have := HJ6.out; have := HK2.out; omega⟩, ⟨belS HB.out⟩⟩
          ·rw [if_neg c16] at H
           have c16b0 : (a0 == 1) = false := beq_eq_false_iff_ne.mpr c16
           have c16b1 : (a0 != 1) = true := bne_iff_ne.mpr c16
           by_cases c26 : a0 = 2
           ·rw [if_pos c26] at H
            have c26b0 : (a0 == 2) = true := beq_iff_eq.mpr c26
            have c26b1 : (a0 != 2) = false := bne_eq_false_iff_eq.mpr c26
            clear c26
            by_cases c27 : (bt t177 x7_2) = 60
            ·rw [if_pos c27] at H
             have c27b0 : ((bt t177 x7_2) == 60) = true := beq_iff_eq.mpr c27
             have c27b1 : ((bt t177 x7_2) != 60) = false := bne_eq_false_iff_eq.mpr c27
             clear c27
             exact absurd ((Option.some.inj H).trans hTr.out) (by decide)
            ·rw [if_neg c27] at H
             have c27b0 : ((bt t177 x7_2) == 60) = false := beq_eq_false_iff_ne.mpr c27
             have c27b1 : ((bt t177 x7_2) != 60) = true := bne_iff_ne.mpr c27
             by_cases c28 : (bt t177 x7_2) = 62
             ·rw [if_pos c28] at H
              have c28b0 : ((bt t177 x7_2) == 62) = true := beq_iff_eq.mpr c28
              have c28b1 : ((bt t177 x7_2) != 62) = false := bne_eq_false_iff_eq.mpr c28
              clear c28
              exact absurd ((Option.some.inj H).trans hTr.out) (by decide)
             ·rw [if_neg c28] at H
              have c28b0 : ((bt t177 x7_2) == 62) = false := beq_eq_false_iff_ne.mpr c28
              have c28b1 : ((bt t177 x7_2) != 62) = true := bne_iff_ne.mpr c28
              by_cases c29 : (bt t177 x7_2) = 34
              ·rw [if_pos c29] at H
               have c29b0 : ((bt t177 x7_2) == 34) = true := beq_iff_eq.mpr c29
               have c29b1 : ((bt t177 x7_2) != 34) = false := bne_eq_false_iff_eq.mpr c29
               clear c29
               exact absurd ((Option.some.inj H).trans hTr.out) (by decide)
              ·rw [if_neg c29] at H
               have c29b0 : ((bt t177 x7_2) == 34) = false := beq_eq_false_iff_ne.mpr c29
               have c29b1 : ((bt t177 x7_2) != 34) = true := bne_iff_ne.mpr c29
               by_cases c30 : (bt t177 x7_2) = 39
               ·rw [if_pos c30] at H
                have c30b0 : ((bt t177 x7_2) == 39) = true := beq_iff_eq.mpr c30
                have c30b1 : ((bt t177 x7_2) != 39) = false := bne_eq_false_iff_eq.mpr c30
                clear c30
                exact absurd ((Option.some.inj H).trans hTr.out) (by decide)
               ·rw [if_neg c30] at H
                have c30b0 : ((bt t177 x7_2) == 39) = false := beq_eq_false_iff_ne.mpr c30
                have c30b1 : ((bt t177 x7_2) != 39) = true := bne_iff_ne.mpr c30
                have H' := Aside0.mk H
                clear H
                have p15 : 0 ≤ (x7_2 : Int) := of_decide_eq_true (by first | (with_reducible assumption) | assumption)
                have q15 : x7_2 < (t177.size : Int) := of_decide_eq_true (by first | (with_reducible assumption) | assumption)
                have hx15 := bt_at t177 x7_2
                replace p15 := eq_true p15
                replace q15 := eq_true q15
                go_wp2
                go_roundg k2
                case measure => have := HJ6.out; have := HK2.out; omega
                case rel => exact ⟨(wrap64 (x7_2 + 1)), (by first | rfl | (simp; done) | (simp [*]; done)), H', ⟨by have := HJ6.out; have := HK2.out; omega⟩, ⟨belS HB.out⟩⟩
           ·rw [if_neg c26] at H
            have c26b0 : (a0 == 2) = false := beq_eq_false_iff_ne.mpr c26
            have c26b1 : (a0 != 2) = true := bne_iff_ne.mpr c26
            by_cases c31 : (bt t177 x7_2) < 32
            ·rw [if_pos c31] at H
             have c31b0 : decide ((bt t177 x7_2) < 32) = true := decide_eq_true c31
             clear c31
             exact absurd ((Option.some.inj H).trans hTr.out) (by decide)
            ·rw [if_neg c31] at H
             have c31b0 : decide ((bt t177 x7_2) < 32) = false := decide_eq_false c31
             clear c31
             by_cases c32 : (bt t177 x7_2) > 126
             ·rw [if_pos c32] at H
              have c32b0 : decide (126 < (bt t177 x7_2)) = true := decide_eq_true c32
              clear c32
              exact absurd ((Option.some.inj H).trans hTr.out) (by decide)
             ·rw [if_neg c32] at H
              have c32b0 : decide (126 < (bt t177 x7_2)) = false := decide_eq_false c32
              clear c32
              have H' := Aside0.mk H
              clear H
              have p15 : 0 ≤ (x7_2 : Int) := of_decide_eq_true (by first | (with_reducible assumption) | assumption)
              have q15 : x7_2 < (t177.size : Int) := of_decide_eq_true (by first | (with_reducible assumption) | assumption)
              have hx15 := bt_at t177 x7_2
              replace p15 := eq_true p15
              replace q15 := eq_true q15
              go_wp2
              go_roundg k2
              case measure => have := HJ6.out; have := HK2.out; omega
              case rel => exact ⟨(wrap64 (x7_2 + 1)), (by first | rfl | (simp; done) | (simp [*]; done)), H', ⟨by have := HJ6.out; have := HK2.out; omega⟩, ⟨belS HB.out⟩⟩
         ·rw [if_neg c14] at H
          exact absurd H (by simp)
        ·rw [if_neg c13] at H
         have c13b0 : decide (x7_2 < (t177.size : Int)) = false := decide_eq_false c13
         clear c13
         obtain rfl := Option.some.inj H
         go_wp2
         go_ret
         exact ⟨by first | rfl | (simp [errW_none, errW_some] <;> rfl) | (simp [*, errW_none, errW_some] <;> rfl), belS HB.out⟩
  ·rw [if_neg c6] at H
   have c6b0 : (t178 == 0) = false := beq_eq_false_iff_ne.mpr c6
   have c6b1 : (t178 != 0) = true := bne_iff_ne.mpr c6
   obtain rfl := Option.some.inj H
   go_enter Tryd.func9, Tryd.ntmps9
   go_wp2_with (first | ((with_reducible refine gate_callee (f := 24) rfl ?_); refine goesL_ (some 9) rfl rfl Tryd.func24 (by kernel_rfl) rfl #[] rfl (by (try simp only [List.map_toArray, List.map_cons, List.map_nil]); first | done | rfl) ?_; (with_reducible refine (bellmanlaw13_lives.calls  true _ A3.out (Aside0.mk rfl) (Glob.below hGlb (belS HB.out))).mono ?_); rintro e w33 ⟨rfl, hb⟩; refine ⟨_, rfl, ?_⟩; have n0_ := Aside0.mk (below_step (belS HB.out) hb); clear HB; have HB := n0_; clear n0_; (try clear hb); (try clear hb2); (try clear hk); (try clear hi)) | ((with_reducible refine gate_callee (f := 20) rfl ?_); refine goesL_ (some 14) rfl rfl Tryd.func20 (by kernel_rfl) rfl #[.int .u8 a0, .string a1] rfl (by (try simp only [List.map_toArray, List.map_cons, List.map_nil]); first | done | rfl) ?_; (with_reducible refine (esc_To.calls a0 a1 t177 t178 _ A5.out).mono ?_); rintro e w34 ⟨rfl, hb⟩; refine ⟨_, rfl, ?_⟩; have n0_ := Aside0.mk (below_step (belS HB.out) hb); clear HB; have HB := n0_; clear n0_; (try clear hb); (try clear hb2); (try clear hk); (try clear hi)))
   go_ret
   exact ⟨by first | rfl | (simp [errW_none, errW_some] <;> rfl) | (simp [*, errW_none, errW_some] <;> rfl), belS HB.out⟩
 ·replace c4 := Bool.eq_false_iff.mpr c4
  subst c4
  have H1 : (some false) = some r := by rw [if_neg (show ¬ (false = true) by decide)] at H; exact H
  clear H
  have H := H1
  clear H1
  exact absurd ((Option.some.inj H).trans hTr.out) (by decide)

/-- THE ONE PURE STATEMENT of bellmanlaw13_EscSafe: yours. -/
def bellmanlaw13_EscSafe.Pure : Prop := ∀ (a0 : Int) (a1 : ByteArray), (Lit.int .u8 a0).wf = true → a1.size ≤ 140737488351232 → ∃ k, bellmanlaw13_EscSafe.f k a0 a1 = some true
theorem bellmanlaw13_EscSafe.walk (P : bellmanlaw13_EscSafe.Pure) (a0 : Int) (a1 : ByteArray) (w : World) (w0 : (Lit.int .u8 a0).wf = true) (w1 : a1.size ≤ 140737488351232) (hGlb : Glob w) :
  Calls Tryd.prog 9 #[.int .u8 a0, .string a1] w fun e w' => e = .returned (.bool true) ∧ Below w.heap.size w w' := by
 obtain ⟨k, h⟩ := P a0 a1 w0 w1
 refine (bellmanlaw13_EscSafe.calls k a0 a1 true w h (Aside0.mk rfl) (globS hGlb)).mono ?_
 rintro e w' ⟨rfl, hd⟩
 exact ⟨rfl, hd⟩

end Go.Proofs.YtcbdihhnoicabaaDoor.PE
