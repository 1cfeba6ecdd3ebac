-- MADE BY xprint.py (this session's own driver; wip/tools) out of the translation. Not trusted: Lean checks it.
import Derived.Test.YtcbdihhnoicabaaDoorPEx0
import Derived.Test.YtcbdihhnoicabaaDoorPEx1
namespace Go.Proofs.YtcbdihhnoicabaaDoor.PE
open Go.RowKit Go.Proofs.YtcbdihhnoicabaaDoorW.PrintWords Go.Proofs.YtcbdihhnoicabaaDoorW.PrintLast Go.Proofs.YtcbdihhnoicabaaDoorW.PrintMore Go.Proofs.YtcbdihhnoicabaaDoor.Short Go.Proofs.YtcbdihhnoicabaaDoor.Esc
attribute [local go_sem] max2_int min2_int max_two min_two max_three min_three max_four min_four   -- for this text's walks alone
set_option linter.unusedVariables false
set_option linter.unusedSimpArgs false

/-! ### bellmanref13_From: function 23 -/
mutual
def bellmanref13_From.l0 : Nat → Int → ByteArray → List Int → Int → Option (ByteArray × Int)
 | 0, _, _, _, _ => none
 | k + 1, x0, x1, x6, x7 => if x7 < (x1.size : Int) then (if x0 = 3 then (if 0 ≤ x7 then ((bellmanref13_plain.f (bt x1 x7)).bind fun t115 => (if t115 = true then (if x6.length < 140737488355328 then (bellmanref13_From.l0 k x0 x1 (x6 ++ [bt x1 x7]) (wrap64 (x7 + 1))) else (none)) else (some ((⟨#[]⟩ : ByteArray), 7)))) else (none)) else (bellmanref13_From.l1 k x0 x1 x6 x7 0 0)) else (some (strOfNums x6, 0))
def bellmanref13_From.l1 : Nat → Int → ByteArray → List Int → Int → Int → Int → Option (ByteArray × Int)
 | 0, _, _, _, _, _, _ => none
 | k + 1, x0, x1, x6, x7, x8, x9 => if x9 < 256 then (bellmanref13_From.j2 k x0 x1 x6 x7 x8 x9 (x8 == 0)) else (bellmanref13_From.j2 k x0 x1 x6 x7 x8 x9 false)
def bellmanref13_From.j2 : Nat → Int → ByteArray → List Int → Int → Int → Int → Bool → Option (ByteArray × Int)
 | 0, _, _, _, _, _, _, _ => none
 | k + 1, x0, x1, x6, x7, x8, x9, x38 => if x38 = true then ((bellmanref13_push.f ((x9) % 256)).bind fun t119 => (if x0 = 2 then ((bellmanref13_email.f ((x9) % 256)).bind fun t120 => (if (t120.size : Int) ≤ (wrap64 ((x1.size : Int) - x7)) then (if 0 ≤ x7 then (if x7 ≤ (wrap64 (x7 + (t120.size : Int))) then (if (wrap64 (x7 + (t120.size : Int))) ≤ (x1.size : Int) then (if (x1.extract (x7 : Int).toNat ((wrap64 (x7 + (t120.size : Int))) : Int).toNat).toList = t120.toList then (if x6.length < 140737488355328 then (bellmanref13_From.l1 k x0 x1 (x6 ++ [(x9) % 256]) x7 (t120.size : Int) (wrap64 (x9 + 1))) else (none)) else (bellmanref13_From.l1 k x0 x1 x6 x7 x8 (wrap64 (x9 + 1)))) else (none)) else (none)) else (none)) else (bellmanref13_From.l1 k x0 x1 x6 x7 x8 (wrap64 (x9 + 1))))) else (if (t119.size : Int) ≤ (wrap64 ((x1.size : Int) - x7)) then (if 0 ≤ x7 then (if x7 ≤ (wrap64 (x7 + (t119.size : Int))) then (if (wrap64 (x7 + (t119.size : Int))) ≤ (x1.size : Int) then (if (x1.extract (x7 : Int).toNat ((wrap64 (x7 + (t119.size : Int))) : Int).toNat).toList = t119.toList then (if x6.length < 140737488355328 then (bellmanref13_From.l1 k x0 x1 (x6 ++ [(x9) % 256]) x7 (t119.size : Int) (wrap64 (x9 + 1))) else (none)) else (bellmanref13_From.l1 k x0 x1 x6 x7 x8 (wrap64 (x9 + 1)))) else (none)) else (none)) else (none)) else (bellmanref13_From.l1 k x0 x1 x6 x7 x8 (wrap64 (x9 + 1)))))) else (if x8 = 0 then (some ((⟨#[]⟩ : ByteArray), 7)) else (bellmanref13_From.l0 k x0 x1 x6 (wrap64 (x7 + x8))))
end
def bellmanref13_From.f (k : Nat) (a0 : Int) (a1 : ByteArray) : Option (ByteArray × Int) := (bellmanref13_Is.f a0).bind fun t114 => (if t114 = true then (bellmanref13_From.l0 k a0 a1 ([] : List Int) 0) else (some ((⟨#[]⟩ : ByteArray), 1)))
theorem bellmanref13_From.mono_l : ∀ k, (∀ y0 y1 y2 y3, LeO (bellmanref13_From.l0 k y0 y1 y2 y3) (bellmanref13_From.l0 (k + 1) y0 y1 y2 y3)) ∧ (∀ y0 y1 y2 y3 y4 y5, LeO (bellmanref13_From.l1 k y0 y1 y2 y3 y4 y5) (bellmanref13_From.l1 (k + 1) y0 y1 y2 y3 y4 y5)) ∧ (∀ y0 y1 y2 y3 y4 y5 y6, LeO (bellmanref13_From.j2 k y0 y1 y2 y3 y4 y5 y6) (bellmanref13_From.j2 (k + 1) y0 y1 y2 y3 y4 y5 y6))
 | 0 => ⟨fun _ _ _ _ r h => by simp [bellmanref13_From.l0] at h, fun _ _ _ _ _ _ r h => by simp [bellmanref13_From.l1] at h, fun _ _ _ _ _ _ _ r h => by simp [bellmanref13_From.j2] at h⟩
 | k + 1 => by
  obtain ⟨ih0, ih1, ih2⟩ := bellmanref13_From.mono_l k
  refine ⟨?_, ?_, ?_⟩
  ·intro y0 y1 y2 y3
   unfold bellmanref13_From.l0
   repeat' first
   | (with_reducible exact ih0 _ _ _ _)
   | (with_reducible exact ih1 _ _ _ _ _ _)
   | (with_reducible exact ih2 _ _ _ _ _ _ _)
   | (with_reducible exact LeO.refl _)
   | (with_reducible exact LeO.none _)
   | (with_reducible refine LeO.ite ?_ ?_)
   | (with_reducible refine LeO.bind ?_ (fun _ => ?_))
   | exact ih0 _ _ _ _
   | exact ih1 _ _ _ _ _ _
   | exact ih2 _ _ _ _ _ _ _
   | exact LeO.none _
   | refine LeO.ite ?_ ?_
   | refine LeO.bind ?_ (fun _ => ?_)
  ·intro y0 y1 y2 y3 y4 y5
   unfold bellmanref13_From.l1
   repeat' first
   | (with_reducible exact ih0 _ _ _ _)
   | (with_reducible exact ih1 _ _ _ _ _ _)
   | (with_reducible exact ih2 _ _ _ _ _ _ _)
   | (with_reducible exact LeO.refl _)
   | (with_reducible exact LeO.none _)
   | (with_reducible refine LeO.ite ?_ ?_)
   | (with_reducible refine LeO.bind ?_ (fun _ => ?_))
   | exact ih0 _ _ _ _
   | exact ih1 _ _ _ _ _ _
   | exact ih2 _ _ _ _ _ _ _
   | exact LeO.none _
   | refine LeO.ite ?_ ?_
   | refine LeO.bind ?_ (fun _ => ?_)
  ·intro y0 y1 y2 y3 y4 y5 y6
   unfold bellmanref13_From.j2
   repeat' first
   | (with_reducible exact ih0 _ _ _ _)
   | (with_reducible exact ih1 _ _ _ _ _ _)
   | (with_reducible exact ih2 _ _ _ _ _ _ _)
   | (with_reducible exact LeO.refl _)
   | (with_reducible exact LeO.none _)
   | (with_reducible refine LeO.ite ?_ ?_)
   | (with_reducible refine LeO.bind ?_ (fun _ => ?_))
   | exact ih0 _ _ _ _
   | exact ih1 _ _ _ _ _ _
   | exact ih2 _ _ _ _ _ _ _
   | exact LeO.none _
   | refine LeO.ite ?_ ?_
   | refine LeO.bind ?_ (fun _ => ?_)
theorem bellmanref13_From.mono : ∀ a0 a1 k, LeO (bellmanref13_From.f k a0 a1) (bellmanref13_From.f (k + 1) a0 a1) := by
 intro a0 a1 k
 obtain ⟨ih0, ih1, ih2⟩ := bellmanref13_From.mono_l k
 unfold bellmanref13_From.f
 repeat' first
   | (with_reducible exact ih0 _ _ _ _)
   | (with_reducible exact ih1 _ _ _ _ _ _)
   | (with_reducible exact ih2 _ _ _ _ _ _ _)
   | (with_reducible exact LeO.refl _)
   | (with_reducible exact LeO.none _)
   | (with_reducible refine LeO.ite ?_ ?_)
   | (with_reducible refine LeO.bind ?_ (fun _ => ?_))
   | exact ih0 _ _ _ _
   | exact ih1 _ _ _ _ _ _
   | exact ih2 _ _ _ _ _ _ _
   | exact LeO.none _
   | refine LeO.ite ?_ ?_
   | refine LeO.bind ?_ (fun _ => ?_)
set_option maxHeartbeats 8000000 in
set_option maxRecDepth 100000 in
theorem bellmanref13_From.calls (k : Nat) (a0 : Int) (a1 : ByteArray) (r1 : ByteArray) (r2 : Int) (w : World) (h : bellmanref13_From.f k a0 a1 = some (r1, r2)) :
  Calls Tryd.prog 23 #[.int .u8 a0, .string a1] w fun e w' => e = .returned (.tuple #[.string r1, .int .i64 r2]) ∧ Below w.heap.size w w' := by
 have HB := Aside0.mk (Below.refl w.heap.size w)
 have H : ((bellmanref13_Is.f a0).bind fun t114 => (if t114 = true then (bellmanref13_From.l0 k a0 a1 ([] : List Int) 0) else (some ((⟨#[]⟩ : ByteArray), 1)))) = some (r1, r2) := h
 clear h
 replace H := Option.bind_eq_some_iff.mp H
 obtain ⟨t114, A30, H⟩ := H
 (try dsimp only at H)
 have A3 := Aside0.mk A30
 clear A30
 by_cases c4 : t114 = true
 ·subst c4
  have H1 : (bellmanref13_From.l0 k a0 a1 ([] : List Int) 0) = some (r1, r2) := by rw [if_pos rfl] at H; exact H
  clear H
  have H := H1
  clear H1
  have H' := Aside0.mk H
  clear H
  go_enter Tryd.func23, Tryd.ntmps23
  go_wp2_with (first | ((with_reducible refine gate_callee (f := 51) rfl ?_); refine goesL_ (some 12) rfl rfl Tryd.func51 (by kernel_rfl) rfl #[.int .u8 a0] rfl (by (try simp only [List.map_toArray, List.map_cons, List.map_nil]); first | done | rfl | (simp only [List.length_drop, List.length_take]; rfl)) ?_; (with_reducible refine (bellmanref13_Is.calls a0 true _ A3.out).mono ?_); rintro e w' ⟨rfl, ⟨nd, rfl⟩⟩; refine ⟨_, rfl, ?_⟩))
  go_loopg [6, 7] k (fun kq v6 v7 w' => ∃ (x6_1 : List Int) (x7_1 : Int), v7 = .int .i64 x7_1 ∧ Aside0 (bellmanref13_From.l0 kq a0 a1 x6_1 x7_1 = some (r1, r2)) ∧ Aside0 (kq ≤ k) ∧ Aside0 (Kd.R (Kd.int .u8) 5 w' w.heap.size (fun _ => True) v6 x6_1) ∧ Aside0 (Below w.heap.size w w'))
  case atStart => exact ⟨(([] : List Int)), (0), (by first | rfl | (simp; done) | (simp [*]; done)), H', ⟨Nat.le_refl _⟩, ⟨by first | exact Kd.R_nil _ _ _ _ _ | exact Kd.N_nil _ _ _ _ _ | exact Kd.V_nil _ _ _ _ _ | exact Kd.Q_nil _ _ _ _ _ | exact Kd.S_nil _ _ _ _ _⟩, ⟨belS HB.out⟩⟩
  case round =>
   clear H'
   try clear c2
   try clear p2
   try clear c4
   obtain ⟨x6_1, x7_1, rfl, HA, HK1, HO_6, HB⟩ := hrel
   cases gk with
   | zero => exact absurd HA.out (by simp [bellmanref13_From.l0])
   | succ k1 =>
    have H := HA.out
    clear HA
    simp only [bellmanref13_From.l0] at H
    by_cases c5 : x7_1 < (a1.size : Int)
    ·rw [if_pos c5] at H
     have c5b0 : decide (x7_1 < (a1.size : Int)) = true := decide_eq_true c5
     clear c5
     by_cases c6 : a0 = 3
     ·rw [if_pos c6] at H
      have c6b0 : (a0 == 3) = true := beq_iff_eq.mpr c6
      have c6b1 : (a0 != 3) = false := bne_eq_false_iff_eq.mpr c6
      clear c6
      by_cases c7 : 0 ≤ x7_1
      ·rw [if_pos c7] at H
       have c7b0 : decide (0 ≤ x7_1) = true := decide_eq_true c7
       clear c7
       replace H := Option.bind_eq_some_iff.mp H
       obtain ⟨t115, A90, H⟩ := H
       (try dsimp only at H)
       have A9 := Aside0.mk A90
       clear A90
       by_cases c10 : t115 = true
       ·subst c10
        rw [if_pos rfl] at H
        by_cases c12 : x6_1.length < 140737488355328
        ·rw [if_pos c12] at H
         have LMc12 := Aside0.mk c12
         clear c12
         obtain ⟨y116, hy116⟩ : ∃ y_ : List Int, y_ = (x6_1 ++ [bt a1 x7_1]) := ⟨_, rfl⟩
         replace H : (bellmanref13_From.l0 k1 a0 a1 y116 (wrap64 (x7_1 + 1))) = some (r1, r2) := by first | (rw [hy116]; with_reducible exact H) | (have H2_ := (Option.bind_some _ _).symm.trans H; rw [hy116]; with_reducible exact H2_) | (have H2_ := (Option.bind_some _ _).symm.trans H; with_reducible exact H2_) | with_reducible exact H | (rw [hy116]; exact H) | exact H
         have Ny116 := Aside0.mk hy116
         clear hy116
         have H' := Aside0.mk H
         clear H
         have p8 : 0 ≤ (x7_1 : Int) := of_decide_eq_true (by first | (with_reducible assumption) | assumption)
         have q8 : x7_1 < (a1.size : Int) := of_decide_eq_true (by first | (with_reducible assumption) | assumption)
         have hx8 := bt_at a1 x7_1
         replace p8 := eq_true p8
         replace q8 := eq_true q8
         go_wp2_with (first | ((with_reducible refine gate_callee (f := 54) rfl ?_); refine goesL_ (some 23) rfl rfl Tryd.func54 (by kernel_rfl) rfl #[.int .u8 (bt a1 x7_1)] rfl (by (try simp only [List.map_toArray, List.map_cons, List.map_nil]); first | done | rfl | (simp only [List.length_drop, List.length_take]; rfl)) ?_; (with_reducible refine (bellmanref13_plain.calls (bt a1 x7_1) true _ A9.out).mono ?_); rintro e w' ⟨rfl, ⟨nd, rfl⟩⟩; refine ⟨_, rfl, ?_⟩; have p11 : 0 ≤ (x7_1 : Int) := of_decide_eq_true (by first | (with_reducible assumption) | assumption); have q11 : x7_1 < (a1.size : Int) := of_decide_eq_true (by first | (with_reducible assumption) | assumption); have hx11 := bt_at a1 x7_1; replace p11 := eq_true p11; replace q11 := eq_true q11) | ((with_reducible refine gate_builtin (b := .append) (xs := #[.tmp 25, .tmp 29]) rfl ?_); (try (refine gate_guard (by rfl) ?_; dsimp only)); at_builtin; refine Kd.R_append (Kd.int .u8) (w0 := w) w.heap.size rfl (.tmp 25) (.tmp 29) 65 5 (.int .u8 0) 1 rfl Tryd.underlying65 info5 rfl (by decide) (by omega) u6 x6_1 (bt a1 x7_1) [.int .u8 (bt a1 x7_1)] (fun _ => True) (fun _ => False) rfl rfl ?aP (fun _ hk => hk.elim) ?aF ?aO ?aB ?aS ?aL ?_; (case aP => exact rfl); (case aB => exact (belS HB.out)); (case aF => exact (fun _ _ => trivial)); (case aO => exact (by (with_reducible repeat (first | apply Kd.R_alloc | apply Kd.R_drewN | apply Kd.R_drew)); exact HO_6.out)); (case aS => exact (below_size (belS HB.out))); (case aL => have := LMc12.out; omega); intro v117 w13 ho hb hg hat; rw [← Ny116.out] at ho; have n0_ := Aside0.mk (hb); have n1_ := Aside0.mk (ho); clear HB; clear HO_6; have HB := n0_; have HO118 := n1_; clear n0_ n1_; clear ho hb hg hat))
         go_roundg k1
         case measure => have := HK1.out; omega
         case rel => exact ⟨(y116), (wrap64 (x7_1 + 1)), (by first | rfl | (simp; done) | (simp [*]; done)), H', ⟨by have := HK1.out; omega⟩, ⟨by (with_reducible repeat (first | apply Kd.R_alloc | apply Kd.R_drewN | apply Kd.R_drew)); exact HO118.out⟩, ⟨belS HB.out⟩⟩
        ·rw [if_neg c12] at H
         exact absurd H (by simp)
       ·replace c10 := Bool.eq_false_iff.mpr c10
        subst c10
        have H1 : (some ((⟨#[]⟩ : ByteArray), 7)) = some (r1, r2) := by rw [if_neg (show ¬ (false = true) by decide)] at H; exact H
        clear H
        have H := H1
        clear H1
        simp only [Option.some.injEq, Prod.mk.injEq] at H
        obtain ⟨rfl, rfl⟩ := H
        have p8 : 0 ≤ (x7_1 : Int) := of_decide_eq_true (by first | (with_reducible assumption) | assumption)
        have q8 : x7_1 < (a1.size : Int) := of_decide_eq_true (by first | (with_reducible assumption) | assumption)
        have hx8 := bt_at a1 x7_1
        replace p8 := eq_true p8
        replace q8 := eq_true q8
        go_wp2_with (first | ((with_reducible refine gate_callee (f := 54) rfl ?_); refine goesL_ (some 23) rfl rfl Tryd.func54 (by kernel_rfl) rfl #[.int .u8 (bt a1 x7_1)] rfl (by (try simp only [List.map_toArray, List.map_cons, List.map_nil]); first | done | rfl | (simp only [List.length_drop, List.length_take]; rfl)) ?_; (with_reducible refine (bellmanref13_plain.calls (bt a1 x7_1) false _ A9.out).mono ?_); rintro e w' ⟨rfl, ⟨nd, rfl⟩⟩; refine ⟨_, rfl, ?_⟩))
        go_ret2
        exact ⟨by first | rfl | (simp [errW_none, errW_some] <;> rfl) | (simp [*, errW_none, errW_some] <;> rfl), belS HB.out⟩
      ·rw [if_neg c7] at H
       exact absurd H (by simp)
     ·rw [if_neg c6] at H
      have c6b0 : (a0 == 3) = false := beq_eq_false_iff_ne.mpr c6
      have c6b1 : (a0 != 3) = true := bne_iff_ne.mpr c6
      have H' := Aside0.mk H
      clear H
      go_wp2
      go_loopg [6, 8, 9] k1 (fun kq v6 v8 v9 w' => ∃ (x6_2 : List Int) (x8_2 : Int) (x9_2 : Int), v8 = .int .i64 x8_2 ∧ v9 = .int .i64 x9_2 ∧ Aside0 (bellmanref13_From.l1 kq a0 a1 x6_2 x7_1 x8_2 x9_2 = some (r1, r2)) ∧ Aside0 (kq ≤ k1) ∧ Aside0 (Kd.R (Kd.int .u8) 5 w' w.heap.size (fun _ => True) v6 x6_2) ∧ Aside0 (Below w.heap.size w w'))
      case atStart => exact ⟨(x6_1), (0), (0), (by first | rfl | (simp; done) | (simp [*]; done)), (by first | rfl | (simp; done) | (simp [*]; done)), H', ⟨Nat.le_refl _⟩, ⟨by (with_reducible repeat (first | apply Kd.R_alloc | apply Kd.R_drewN | apply Kd.R_drew)); exact HO_6.out⟩, ⟨belS HB.out⟩⟩
      case round =>
       clear H'
       try clear c1
       try clear p1
       try clear q1
       try clear hx1
       try clear c2
       try clear p2
       try clear c4
       try clear c5
       try clear c5b0
       try clear c6
       try clear c6b0
       try clear c6b1
       try clear p6
       try clear c7
       try clear c7b0
       try clear p8
       try clear q8
       try clear hx8
       try clear c10
       try clear p11
       try clear q11
       try clear hx11
       try clear c12
       try clear p11
       try clear p2
       try clear p8
       try clear q11
       try clear q8
       obtain ⟨x6_2, x8_2, x9_2, rfl, rfl, HA, HK2, HO_6, HB⟩ := hrel
       cases gk with
       | zero => exact absurd HA.out (by simp [bellmanref13_From.l1])
       | succ k2 =>
        have H := HA.out
        clear HA
        simp only [bellmanref13_From.l1] at H
        have HC14 := Aside0.mk H
        clear H
        go_upto_region 13 with (fail)
        go_cut [38] (fun v38 wc => ∃ (kq : Nat) (x38_13 : Bool), v38 = .bool x38_13 ∧ Aside0 (bellmanref13_From.j2 kq a0 a1 x6_2 x7_1 x8_2 x9_2 x38_13 = some (r1, r2)) ∧ Aside0 (kq ≤ k2) ∧ Aside0 (Kd.R (Kd.int .u8) 5 wc w.heap.size (fun _ => True) u6 x6_2) ∧ Aside0 (Below w.heap.size w wc))
        case first =>
         have H := HC14.out
         clear HC14
         by_cases c15 : x9_2 < 256
         ·rw [if_pos c15] at H
          have c15b0 : decide (x9_2 < 256) = true := decide_eq_true c15
          clear c15
          (first | rw [c15b0] | (simp only [i64_w, i32_w]; rw [c15b0]) | skip)
          have H' := Aside0.mk H
          clear H
          go_wp2
          go_meet
          case rel => exact ⟨_, ((x8_2 == 0)), (by first | rfl | (simp; done) | (simp [*]; done)), H', ⟨by have := HK1.out; have := HK2.out; first | omega | exact Nat.le_refl _⟩, ⟨by (with_reducible repeat (first | apply Kd.R_alloc | apply Kd.R_drewN | apply Kd.R_drew)); exact HO_6.out⟩, ⟨belS HB.out⟩⟩
         ·rw [if_neg c15] at H
          have c15b0 : decide (x9_2 < 256) = false := decide_eq_false c15
          clear c15
          (first | rw [c15b0] | (simp only [i64_w, i32_w]; rw [c15b0]) | skip)
          have H' := Aside0.mk H
          clear H
          go_wp2
          go_meet
          case rel => exact ⟨_, (false), (by first | rfl | (simp; done) | (simp [*]; done)), H', ⟨by have := HK1.out; have := HK2.out; first | omega | exact Nat.le_refl _⟩, ⟨by (with_reducible repeat (first | apply Kd.R_alloc | apply Kd.R_drewN | apply Kd.R_drew)); exact HO_6.out⟩, ⟨belS HB.out⟩⟩
        case rest =>
         clear HC14
         try clear c1
         try clear p1
         try clear q1
         try clear hx1
         try clear c2
         try clear p2
         try clear c4
         try clear c5
         try clear c5b0
         try clear c6
         try clear c6b0
         try clear c6b1
         try clear p6
         try clear c7
         try clear c7b0
         try clear p8
         try clear q8
         try clear hx8
         try clear c10
         try clear p11
         try clear q11
         try clear hx11
         try clear c12
         try clear c15
         try clear c15b0
         try clear p1
         try clear p11
         try clear p2
         try clear p6
         try clear p8
         try clear q1
         try clear q11
         try clear q8
         obtain ⟨kq, x38_13, rfl, HA, HJ13, HO_6, HB⟩ := hcut
         cases kq with
         | zero => exact absurd HA.out (by simp [bellmanref13_From.j2])
         | succ kj13 =>
          have H := HA.out
          clear HA
          simp only [bellmanref13_From.j2] at H
          by_cases c16 : x38_13 = true
          ·subst c16
           rw [if_pos rfl] at H
           replace H := Option.bind_eq_some_iff.mp H
           obtain ⟨t119, A170, H⟩ := H
           (try dsimp only at H)
           have A17 := Aside0.mk A170
           clear A170
           by_cases c18 : a0 = 2
           ·rw [if_pos c18] at H
            have c18b0 : (a0 == 2) = true := beq_iff_eq.mpr c18
            have c18b1 : (a0 != 2) = false := bne_eq_false_iff_eq.mpr c18
            clear c18
            replace H := Option.bind_eq_some_iff.mp H
            obtain ⟨t120, A190, H⟩ := H
            (try dsimp only at H)
            have A19 := Aside0.mk A190
            clear A190
            by_cases c20 : (t120.size : Int) ≤ (wrap64 ((a1.size : Int) - x7_1))
            ·rw [if_pos c20] at H
             have c20b0 : decide ((t120.size : Int) ≤ (wrap64 ((a1.size : Int) - x7_1))) = true := decide_eq_true c20
             clear c20
             by_cases c21 : 0 ≤ x7_1
             ·rw [if_pos c21] at H
              have c21b0 := eq_true c21
              have c21b1 : decide (0 ≤ x7_1) = true := decide_eq_true c21
              clear c21
              by_cases c22 : x7_1 ≤ (wrap64 (x7_1 + (t120.size : Int)))
              ·rw [if_pos c22] at H
               have c22b0 := eq_true c22
               have c22b1 : decide (x7_1 ≤ (wrap64 (x7_1 + (t120.size : Int)))) = true := decide_eq_true c22
               by_cases c23 : (wrap64 (x7_1 + (t120.size : Int))) ≤ (a1.size : Int)
               ·rw [if_pos c23] at H
                have c23b0 := eq_true c23
                have c23b1 : decide ((wrap64 (x7_1 + (t120.size : Int))) ≤ (a1.size : Int)) = true := decide_eq_true c23
                by_cases c24 : (a1.extract (x7_1 : Int).toNat ((wrap64 (x7_1 + (t120.size : Int))) : Int).toNat).toList = t120.toList
                ·rw [if_pos c24] at H
                 have c24b0 : ((a1.extract (x7_1 : Int).toNat ((wrap64 (x7_1 + (t120.size : Int))) : Int).toNat).toList == t120.toList) = true := beq_iff_eq.mpr c24
                 have c24b1 : ((a1.extract (x7_1 : Int).toNat ((wrap64 (x7_1 + (t120.size : Int))) : Int).toNat).toList != t120.toList) = false := bne_eq_false_iff_eq.mpr c24
                 clear c24
                 by_cases c25 : x6_2.length < 140737488355328
                 ·rw [if_pos c25] at H
                  have LMc25 := Aside0.mk c25
                  clear c25
                  obtain ⟨y121, hy121⟩ : ∃ y_ : List Int, y_ = (x6_2 ++ [(x9_2) % 256]) := ⟨_, rfl⟩
                  replace H : (bellmanref13_From.l1 kj13 a0 a1 y121 x7_1 (t120.size : Int) (wrap64 (x9_2 + 1))) = some (r1, r2) := by first | (rw [hy121]; with_reducible exact H) | (have H2_ := (Option.bind_some _ _).symm.trans H; rw [hy121]; with_reducible exact H2_) | (have H2_ := (Option.bind_some _ _).symm.trans H; with_reducible exact H2_) | with_reducible exact H | (rw [hy121]; exact H) | exact H
                  have Ny121 := Aside0.mk hy121
                  clear hy121
                  have H' := Aside0.mk H
                  clear H
                  go_wp2_with (first | ((with_reducible refine gate_callee (f := 52) rfl ?_); refine goesL_ (some 43) rfl rfl Tryd.func52 (by kernel_rfl) rfl #[.int .u8 ((x9_2) % 256)] rfl (by (try simp only [List.map_toArray, List.map_cons, List.map_nil]); first | done | rfl | (simp only [List.length_drop, List.length_take]; rfl)) ?_; (with_reducible refine (bellmanref13_push.calls ((x9_2) % 256) t119 _ A17.out).mono ?_); rintro e w26 ⟨rfl, hb⟩; refine ⟨_, rfl, ?_⟩; have n0_ := Aside0.mk (Kd.R_below (by (with_reducible repeat (first | apply Kd.R_alloc | apply Kd.R_drewN | apply Kd.R_drew)); exact HO_6.out) hb); have n1_ := Aside0.mk (below_step (belS HB.out) hb); clear HO_6; clear HB; have HO_6 := n0_; have HB := n1_; clear n0_ n1_; (try clear hb); (try clear hb2); (try clear hk); (try clear hi)) | ((with_reducible refine gate_callee (f := 53) rfl ?_); refine goesL_ (some 48) rfl rfl Tryd.func53 (by kernel_rfl) rfl #[.int .u8 ((x9_2) % 256)] rfl (by (try simp only [List.map_toArray, List.map_cons, List.map_nil]); first | done | rfl | (simp only [List.length_drop, List.length_take]; rfl)) ?_; (with_reducible refine (bellmanref13_email.calls ((x9_2) % 256) t120 _ A19.out).mono ?_); rintro e w27 ⟨rfl, hb⟩; refine ⟨_, rfl, ?_⟩; have n0_ := Aside0.mk (Kd.R_below (by (with_reducible repeat (first | apply Kd.R_alloc | apply Kd.R_drewN | apply Kd.R_drew)); exact HO_6.out) hb); have n1_ := Aside0.mk (below_step (belS HB.out) hb); clear HO_6; clear HB; have HO_6 := n0_; have HB := n1_; clear n0_ n1_; (try clear hb); (try clear hb2); (try clear hk); (try clear hi)) | ((with_reducible refine gate_builtin (b := .append) (xs := #[.tmp 67, .tmp 70]) rfl ?_); (try (refine gate_guard (by rfl) ?_; dsimp only)); at_builtin; refine Kd.R_append (Kd.int .u8) (w0 := w) w.heap.size rfl (.tmp 67) (.tmp 70) 65 5 (.int .u8 0) 1 rfl Tryd.underlying65 info5 rfl (by decide) (by omega) u6 x6_2 ((x9_2) % 256) [.int .u8 ((x9_2) % 256)] (fun _ => True) (fun _ => False) rfl rfl ?aP (fun _ hk => hk.elim) ?aF ?aO ?aB ?aS ?aL ?_; (case aP => exact rfl); (case aB => exact (belS HB.out)); (case aF => exact (fun _ _ => trivial)); (case aO => exact (by (with_reducible repeat (first | apply Kd.R_alloc | apply Kd.R_drewN | apply Kd.R_drew)); exact HO_6.out)); (case aS => exact (below_size (belS HB.out))); (case aL => have := LMc25.out; omega); intro v122 w28 ho hb hg hat; rw [← Ny121.out] at ho; have n0_ := Aside0.mk (hb); have n1_ := Aside0.mk (ho); clear HB; clear HO_6; have HB := n0_; have HO123 := n1_; clear n0_ n1_; clear ho hb hg hat))
                  go_roundg kj13
                  case measure => have := HK1.out; have := HK2.out; have := HJ13.out; omega
                  case rel => exact ⟨(y121), ((t120.size : Int)), (wrap64 (x9_2 + 1)), (by first | rfl | (simp; done) | (simp [*]; done)), (by first | rfl | (simp; done) | (simp [*]; done)), H', ⟨by have := HK1.out; have := HK2.out; have := HJ13.out; omega⟩, ⟨by (with_reducible repeat (first | apply Kd.R_alloc | apply Kd.R_drewN | apply Kd.R_drew)); exact HO123.out⟩, ⟨belS HB.out⟩⟩
                 ·rw [if_neg c25] at H
                  exact absurd H (by simp)
                ·rw [if_neg c24] at H
                 have c24b0 : ((a1.extract (x7_1 : Int).toNat ((wrap64 (x7_1 + (t120.size : Int))) : Int).toNat).toList == t120.toList) = false := beq_eq_false_iff_ne.mpr c24
                 have c24b1 : ((a1.extract (x7_1 : Int).toNat ((wrap64 (x7_1 + (t120.size : Int))) : Int).toNat).toList != t120.toList) = true := bne_iff_ne.mpr c24
                 have H' := Aside0.mk H
                 clear H
                 go_wp2_with (first | ((with_reducible refine gate_callee (f := 52) rfl ?_); refine goesL_ (some 43) rfl rfl Tryd.func52 (by kernel_rfl) rfl #[.int .u8 ((x9_2) % 256)] rfl (by (try simp only [List.map_toArray, List.map_cons, List.map_nil]); first | done | rfl | (simp only [List.length_drop, List.length_take]; rfl)) ?_; (with_reducible refine (bellmanref13_push.calls ((x9_2) % 256) t119 _ A17.out).mono ?_); rintro e w29 ⟨rfl, hb⟩; refine ⟨_, rfl, ?_⟩; have n0_ := Aside0.mk (Kd.R_below (by (with_reducible repeat (first | apply Kd.R_alloc | apply Kd.R_drewN | apply Kd.R_drew)); exact HO_6.out) hb); have n1_ := Aside0.mk (below_step (belS HB.out) hb); clear HO_6; clear HB; have HO_6 := n0_; have HB := n1_; clear n0_ n1_; (try clear hb); (try clear hb2); (try clear hk); (try clear hi)) | ((with_reducible refine gate_callee (f := 53) rfl ?_); refine goesL_ (some 48) rfl rfl Tryd.func53 (by kernel_rfl) rfl #[.int .u8 ((x9_2) % 256)] rfl (by (try simp only [List.map_toArray, List.map_cons, List.map_nil]); first | done | rfl | (simp only [List.length_drop, List.length_take]; rfl)) ?_; (with_reducible refine (bellmanref13_email.calls ((x9_2) % 256) t120 _ A19.out).mono ?_); rintro e w30 ⟨rfl, hb⟩; refine ⟨_, rfl, ?_⟩; have n0_ := Aside0.mk (Kd.R_below (by (with_reducible repeat (first | apply Kd.R_alloc | apply Kd.R_drewN | apply Kd.R_drew)); exact HO_6.out) hb); have n1_ := Aside0.mk (below_step (belS HB.out) hb); clear HO_6; clear HB; have HO_6 := n0_; have HB := n1_; clear n0_ n1_; (try clear hb); (try clear hb2); (try clear hk); (try clear hi)))
                 go_roundg kj13
                 case measure => have := HK1.out; have := HK2.out; have := HJ13.out; omega
                 case rel => exact ⟨(x6_2), (x8_2), (wrap64 (x9_2 + 1)), (by first | rfl | (simp; done) | (simp [*]; done)), (by first | rfl | (simp; done) | (simp [*]; done)), H', ⟨by have := HK1.out; have := HK2.out; have := HJ13.out; omega⟩, ⟨by (with_reducible repeat (first | apply Kd.R_alloc | apply Kd.R_drewN | apply Kd.R_drew)); exact HO_6.out⟩, ⟨belS HB.out⟩⟩
               ·rw [if_neg c23] at H
                exact absurd H (by simp)
              ·rw [if_neg c22] at H
               exact absurd H (by simp)
             ·rw [if_neg c21] at H
              exact absurd H (by simp)
            ·rw [if_neg c20] at H
             have c20b0 : decide ((t120.size : Int) ≤ (wrap64 ((a1.size : Int) - x7_1))) = false := decide_eq_false c20
             clear c20
             have H' := Aside0.mk H
             clear H
             go_wp2_with (first | ((with_reducible refine gate_callee (f := 52) rfl ?_); refine goesL_ (some 43) rfl rfl Tryd.func52 (by kernel_rfl) rfl #[.int .u8 ((x9_2) % 256)] rfl (by (try simp only [List.map_toArray, List.map_cons, List.map_nil]); first | done | rfl | (simp only [List.length_drop, List.length_take]; rfl)) ?_; (with_reducible refine (bellmanref13_push.calls ((x9_2) % 256) t119 _ A17.out).mono ?_); rintro e w31 ⟨rfl, hb⟩; refine ⟨_, rfl, ?_⟩; have n0_ := Aside0.mk (Kd.R_below (by (with_reducible repeat (first | apply Kd.R_alloc | apply Kd.R_drewN | apply Kd.R_drew)); exact HO_6.out) hb); have n1_ := Aside0.mk (below_step (belS HB.out) hb); clear HO_6; clear HB; have HO_6 := n0_; have HB := n1_; clear n0_ n1_; (try clear hb); (try clear hb2); (try clear hk); (try clear hi)) | ((with_reducible refine gate_callee (f := 53) rfl ?_); refine goesL_ (some 48) rfl rfl Tryd.func53 (by kernel_rfl) rfl #[.int .u8 ((x9_2) % 256)] rfl (by (try simp only [List.map_toArray, List.map_cons, List.map_nil]); first | done | rfl | (simp only [List.length_drop, List.length_take]; rfl)) ?_; (with_reducible refine (bellmanref13_email.calls ((x9_2) % 256) t120 _ A19.out).mono ?_); rintro e w32 ⟨rfl, hb⟩; refine ⟨_, rfl, ?_⟩; have n0_ := Aside0.mk (Kd.R_below (by (with_reducible repeat (first | apply Kd.R_alloc | apply Kd.R_drewN | apply Kd.R_drew)); exact HO_6.out) hb); have n1_ := Aside0.mk (below_step (belS HB.out) hb); clear HO_6; clear HB; have HO_6 := n0_; have HB := n1_; clear n0_ n1_; (try clear hb); (try clear hb2); (try clear hk); (try clear hi)))
             go_roundg kj13
             case measure => have := HK1.out; have := HK2.out; have := HJ13.out; omega
             case rel => exact ⟨(x6_2), (x8_2), (wrap64 (x9_2 + 1)), (by first | rfl | (simp; done) | (simp [*]; done)), (by first | rfl | (simp; done) | (simp [*]; done)), H', ⟨by have := HK1.out; have := HK2.out; have := HJ13.out; omega⟩, ⟨by (with_reducible repeat (first | apply Kd.R_alloc | apply Kd.R_drewN | apply Kd.R_drew)); exact HO_6.out⟩, ⟨belS HB.out⟩⟩
           ·rw [if_neg c18] at H
            have c18b0 : (a0 == 2) = false := beq_eq_false_iff_ne.mpr c18
            have c18b1 : (a0 != 2) = true := bne_iff_ne.mpr c18
            by_cases c33 : (t119.size : Int) ≤ (wrap64 ((a1.size : Int) - x7_1))
            ·rw [if_pos c33] at H
             have c33b0 : decide ((t119.size : Int) ≤ (wrap64 ((a1.size : Int) - x7_1))) = true := decide_eq_true c33
             clear c33
             by_cases c34 : 0 ≤ x7_1
             ·rw [if_pos c34] at H
              have c34b0 := eq_true c34
              have c34b1 : decide (0 ≤ x7_1) = true := decide_eq_true c34
              clear c34
              by_cases c35 : x7_1 ≤ (wrap64 (x7_1 + (t119.size : Int)))
              ·rw [if_pos c35] at H
               have c35b0 := eq_true c35
               have c35b1 : decide (x7_1 ≤ (wrap64 (x7_1 + (t119.size : Int)))) = true := decide_eq_true c35
               by_cases c36 : (wrap64 (x7_1 + (t119.size : Int))) ≤ (a1.size : Int)
               ·rw [if_pos c36] at H
                have c36b0 := eq_true c36
                have c36b1 : decide ((wrap64 (x7_1 + (t119.size : Int))) ≤ (a1.size : Int)) = true := decide_eq_true c36
                by_cases c37 : (a1.extract (x7_1 : Int).toNat ((wrap64 (x7_1 + (t119.size : Int))) : Int).toNat).toList = t119.toList
                ·rw [if_pos c37] at H
                 have c37b0 : ((a1.extract (x7_1 : Int).toNat ((wrap64 (x7_1 + (t119.size : Int))) : Int).toNat).toList == t119.toList) = true := beq_iff_eq.mpr c37
                 have c37b1 : ((a1.extract (x7_1 : Int).toNat ((wrap64 (x7_1 + (t119.size : Int))) : Int).toNat).toList != t119.toList) = false := bne_eq_false_iff_eq.mpr c37
                 clear c37
                 by_cases c38 : x6_2.length < 140737488355328
                 ·rw [if_pos c38] at H
                  have LMc38 := Aside0.mk c38
                  clear c38
                  obtain ⟨y124, hy124⟩ : ∃ y_ : List Int, y_ = (x6_2 ++ [(x9_2) % 256]) := ⟨_, rfl⟩
                  replace H : (bellmanref13_From.l1 kj13 a0 a1 y124 x7_1 (t119.size : Int) (wrap64 (x9_2 + 1))) = some (r1, r2) := by first | (rw [hy124]; with_reducible exact H) | (have H2_ := (Option.bind_some _ _).symm.trans H; rw [hy124]; with_reducible exact H2_) | (have H2_ := (Option.bind_some _ _).symm.trans H; with_reducible exact H2_) | with_reducible exact H | (rw [hy124]; exact H) | exact H
                  have Ny124 := Aside0.mk hy124
                  clear hy124
                  have H' := Aside0.mk H
                  clear H
                  go_wp2_with (first | ((with_reducible refine gate_callee (f := 52) rfl ?_); refine goesL_ (some 43) rfl rfl Tryd.func52 (by kernel_rfl) rfl #[.int .u8 ((x9_2) % 256)] rfl (by (try simp only [List.map_toArray, List.map_cons, List.map_nil]); first | done | rfl | (simp only [List.length_drop, List.length_take]; rfl)) ?_; (with_reducible refine (bellmanref13_push.calls ((x9_2) % 256) t119 _ A17.out).mono ?_); rintro e w39 ⟨rfl, hb⟩; refine ⟨_, rfl, ?_⟩; have n0_ := Aside0.mk (Kd.R_below (by (with_reducible repeat (first | apply Kd.R_alloc | apply Kd.R_drewN | apply Kd.R_drew)); exact HO_6.out) hb); have n1_ := Aside0.mk (below_step (belS HB.out) hb); clear HO_6; clear HB; have HO_6 := n0_; have HB := n1_; clear n0_ n1_; (try clear hb); (try clear hb2); (try clear hk); (try clear hi)) | ((with_reducible refine gate_builtin (b := .append) (xs := #[.tmp 67, .tmp 70]) rfl ?_); (try (refine gate_guard (by rfl) ?_; dsimp only)); at_builtin; refine Kd.R_append (Kd.int .u8) (w0 := w) w.heap.size rfl (.tmp 67) (.tmp 70) 65 5 (.int .u8 0) 1 rfl Tryd.underlying65 info5 rfl (by decide) (by omega) u6 x6_2 ((x9_2) % 256) [.int .u8 ((x9_2) % 256)] (fun _ => True) (fun _ => False) rfl rfl ?aP (fun _ hk => hk.elim) ?aF ?aO ?aB ?aS ?aL ?_; (case aP => exact rfl); (case aB => exact (belS HB.out)); (case aF => exact (fun _ _ => trivial)); (case aO => exact (by (with_reducible repeat (first | apply Kd.R_alloc | apply Kd.R_drewN | apply Kd.R_drew)); exact HO_6.out)); (case aS => exact (below_size (belS HB.out))); (case aL => have := LMc38.out; omega); intro v125 w40 ho hb hg hat; rw [← Ny124.out] at ho; have n0_ := Aside0.mk (hb); have n1_ := Aside0.mk (ho); clear HB; clear HO_6; have HB := n0_; have HO126 := n1_; clear n0_ n1_; clear ho hb hg hat))
                  go_roundg kj13
                  case measure => have := HK1.out; have := HK2.out; have := HJ13.out; omega
                  case rel => exact ⟨(y124), ((t119.size : Int)), (wrap64 (x9_2 + 1)), (by first | rfl | (simp; done) | (simp [*]; done)), (by first | rfl | (simp; done) | (simp [*]; done)), H', ⟨by have := HK1.out; have := HK2.out; have := HJ13.out; omega⟩, ⟨by (with_reducible repeat (first | apply Kd.R_alloc | apply Kd.R_drewN | apply Kd.R_drew)); exact HO126.out⟩, ⟨belS HB.out⟩⟩
                 ·rw [if_neg c38] at H
                  exact absurd H (by simp)
                ·rw [if_neg c37] at H
                 have c37b0 : ((a1.extract (x7_1 : Int).toNat ((wrap64 (x7_1 + (t119.size : Int))) : Int).toNat).toList == t119.toList) = false := beq_eq_false_iff_ne.mpr c37
                 have c37b1 : ((a1.extract (x7_1 : Int).toNat ((wrap64 (x7_1 + (t119.size : Int))) : Int).toNat).toList != t119.toList) = true := bne_iff_ne.mpr c37
                 have H' := Aside0.mk H
                 clear H
                 go_wp2_with (first | ((with_reducible refine gate_callee (f := 52) rfl ?_); refine goesL_ (some 43) rfl rfl Tryd.func52 (by kernel_rfl) rfl #[.int .u8 ((x9_2) % 256)] rfl (by (try simp only [List.map_toArray, List.map_cons, List.map_nil]); first | done | rfl | (simp only [List.length_drop, List.length_take]; rfl)) ?_; (with_reducible refine (bellmanref13_push.calls ((x9_2) % 256) t119 _ A17.out).mono ?_); rintro e w41 ⟨rfl, hb⟩; refine ⟨_, rfl, ?_⟩; have n0_ := Aside0.mk (Kd.R_below (by (with_reducible repeat (first | apply Kd.R_alloc | apply Kd.R_drewN | apply Kd.R_drew)); exact HO_6.out) hb); have n1_ := Aside0.mk (below_step (belS HB.out) hb); clear HO_6; clear HB; have HO_6 := n0_; have HB := n1_; clear n0_ n1_; (try clear hb); (try clear hb2); (try clear hk); (try clear hi)))
                 go_roundg kj13
                 case measure => have := HK1.out; have := HK2.out; have := HJ13.out; omega
                 case rel => exact ⟨(x6_2), (x8_2), (wrap64 (x9_2 + 1)), (by first | rfl | (simp; done) | (simp [*]; done)), (by first | rfl | (simp; done) | (simp [*]; done)), H', ⟨by have := HK1.out; have := HK2.out; have := HJ13.out; omega⟩, ⟨by (with_reducible repeat (first | apply Kd.R_alloc | apply Kd.R_drewN | apply Kd.R_drew)); exact HO_6.out⟩, ⟨belS HB.out⟩⟩
               ·rw [if_neg c36] at H
                exact absurd H (by simp)
              ·rw [if_neg c35] at H
               exact absurd H (by simp)
             ·rw [if_neg c34] at H
              exact absurd H (by simp)
            ·rw [if_neg c33] at H
             have c33b0 : decide ((t119.size : Int) ≤ (wrap64 ((a1.size : Int) - x7_1))) = false := decide_eq_false c33
             clear c33
             have H' := Aside0.mk H
             clear H
             go_wp2_with (first | ((with_reducible refine gate_callee (f := 52) rfl ?_); refine goesL_ (some 43) rfl rfl Tryd.func52 (by kernel_rfl) rfl #[.int .u8 ((x9_2) % 256)] rfl (by (try simp only [List.map_toArray, List.map_cons, List.map_nil]); first | done | rfl | (simp only [List.length_drop, List.length_take]; rfl)) ?_; (with_reducible refine (bellmanref13_push.calls ((x9_2) % 256) t119 _ A17.out).mono ?_); rintro e w42 ⟨rfl, hb⟩; refine ⟨_, rfl, ?_⟩; have n0_ := Aside0.mk (Kd.R_below (by (with_reducible repeat (first | apply Kd.R_alloc | apply Kd.R_drewN | apply Kd.R_drew)); exact HO_6.out) hb); have n1_ := Aside0.mk (below_step (belS HB.out) hb); clear HO_6; clear HB; have HO_6 := n0_; have HB := n1_; clear n0_ n1_; (try clear hb); (try clear hb2); (try clear hk); (try clear hi)))
             go_roundg kj13
             case measure => have := HK1.out; have := HK2.out; have := HJ13.out; omega
             case rel => exact ⟨(x6_2), (x8_2), (wrap64 (x9_2 + 1)), (by first | rfl | (simp; done) | (simp [*]; done)), (by first | rfl | (simp; done) | (simp [*]; done)), H', ⟨by have := HK1.out; have := HK2.out; have := HJ13.out; omega⟩, ⟨by (with_reducible repeat (first | apply Kd.R_alloc | apply Kd.R_drewN | apply Kd.R_drew)); exact HO_6.out⟩, ⟨belS HB.out⟩⟩
          ·replace c16 := Bool.eq_false_iff.mpr c16
           subst c16
           rw [if_neg (show ¬ (false = true) by decide)] at H
           by_cases c43 : x8_2 = 0
           ·rw [if_pos c43] at H
            have c43b0 : (x8_2 == 0) = true := beq_iff_eq.mpr c43
            have c43b1 : (x8_2 != 0) = false := bne_eq_false_iff_eq.mpr c43
            clear c43
            simp only [Option.some.injEq, Prod.mk.injEq] at H
            obtain ⟨rfl, rfl⟩ := H
            go_wp2
            go_ret2
            exact ⟨by first | rfl | (simp [errW_none, errW_some] <;> rfl) | (simp [*, errW_none, errW_some] <;> rfl), belS HB.out⟩
           ·rw [if_neg c43] at H
            have c43b0 : (x8_2 == 0) = false := beq_eq_false_iff_ne.mpr c43
            have c43b1 : (x8_2 != 0) = true := bne_iff_ne.mpr c43
            have H' := Aside0.mk H
            clear H
            go_wp2
            go_roundg kj13
            case measure => have := HK1.out; have := HK2.out; have := HJ13.out; omega
            case rel => exact ⟨(x6_2), (wrap64 (x7_1 + x8_2)), (by first | rfl | (simp; done) | (simp [*]; done)), H', ⟨by have := HK1.out; have := HK2.out; have := HJ13.out; omega⟩, ⟨by (with_reducible repeat (first | apply Kd.R_alloc | apply Kd.R_drewN | apply Kd.R_drew)); exact HO_6.out⟩, ⟨belS HB.out⟩⟩
    ·rw [if_neg c5] at H
     have c5b0 : decide (x7_1 < (a1.size : Int)) = false := decide_eq_false c5
     clear c5
     simp only [Option.some.injEq, Prod.mk.injEq] at H
     obtain ⟨rfl, rfl⟩ := H
     have hcv44 := own_string (P := Tryd.prog) Tryd.underlying65 Tryd.underlying5 Tryd.underlying9 (Kd.own_of_R HO_6.out)
     go_wp2
     go_ret2
     exact ⟨by first | rfl | (simp [errW_none, errW_some] <;> rfl) | (simp [*, errW_none, errW_some] <;> rfl), belS HB.out⟩
 ·replace c4 := Bool.eq_false_iff.mpr c4
  subst c4
  have H1 : (some ((⟨#[]⟩ : ByteArray), 1)) = some (r1, r2) := by rw [if_neg (show ¬ (false = true) by decide)] at H; exact H
  clear H
  have H := H1
  clear H1
  simp only [Option.some.injEq, Prod.mk.injEq] at H
  obtain ⟨rfl, rfl⟩ := H
  go_enter Tryd.func23, Tryd.ntmps23
  go_wp2_with (first | ((with_reducible refine gate_callee (f := 51) rfl ?_); refine goesL_ (some 12) rfl rfl Tryd.func51 (by kernel_rfl) rfl #[.int .u8 a0] rfl (by (try simp only [List.map_toArray, List.map_cons, List.map_nil]); first | done | rfl | (simp only [List.length_drop, List.length_take]; rfl)) ?_; (with_reducible refine (bellmanref13_Is.calls a0 false _ A3.out).mono ?_); rintro e w' ⟨rfl, ⟨nd, rfl⟩⟩; refine ⟨_, rfl, ?_⟩))
  go_ret2
  exact ⟨by first | rfl | (simp [errW_none, errW_some] <;> rfl) | (simp [*, errW_none, errW_some] <;> rfl), belS HB.out⟩

/-! ### esc_Most: function 25 -/
def esc_Most.f (a0 : Int) : Option (Int × Int) := if a0 = 1 then (some (256, 0)) else (if a0 = 2 then (some (2048, 0)) else (if a0 = 3 then (some (160, 0)) else (some (0, 1))))
set_option maxHeartbeats 8000000 in
set_option maxRecDepth 100000 in
theorem esc_Most.calls (a0 : Int) (r1 : Int) (r2 : Int) (w : World) (h : esc_Most.f a0 = some (r1, r2)) :
  Calls Tryd.prog 25 #[.int .u8 a0] w fun e w' => e = .returned (.tuple #[.int .i64 r1, .int .i64 r2]) ∧ Drawn0 w w' := by
 have H : (if a0 = 1 then (some (256, 0)) else (if a0 = 2 then (some (2048, 0)) else (if a0 = 3 then (some (160, 0)) else (some (0, 1))))) = some (r1, r2) := h
 clear h
 by_cases c2 : a0 = 1
 ·rw [if_pos c2] at H
  have c2b0 : (a0 == 1) = true := beq_iff_eq.mpr c2
  have c2b1 : (a0 != 1) = false := bne_eq_false_iff_eq.mpr c2
  clear c2
  simp only [Option.some.injEq, Prod.mk.injEq] at H
  obtain ⟨rfl, rfl⟩ := H
  go_enter Tryd.func25, Tryd.ntmps25
  go_wp2
  go_ret2
  exact ⟨by first | rfl | (simp; done) | (simp [*]; done), by repeat (first | exact Drawn0.refl _ | apply Drawn0.step)⟩
 ·rw [if_neg c2] at H
  have c2b0 : (a0 == 1) = false := beq_eq_false_iff_ne.mpr c2
  have c2b1 : (a0 != 1) = true := bne_iff_ne.mpr c2
  by_cases c3 : a0 = 2
  ·rw [if_pos c3] at H
   have c3b0 : (a0 == 2) = true := beq_iff_eq.mpr c3
   have c3b1 : (a0 != 2) = false := bne_eq_false_iff_eq.mpr c3
   clear c3
   simp only [Option.some.injEq, Prod.mk.injEq] at H
   obtain ⟨rfl, rfl⟩ := H
   go_enter Tryd.func25, Tryd.ntmps25
   go_wp2
   go_ret2
   exact ⟨by first | rfl | (simp; done) | (simp [*]; done), by repeat (first | exact Drawn0.refl _ | apply Drawn0.step)⟩
  ·rw [if_neg c3] at H
   have c3b0 : (a0 == 2) = false := beq_eq_false_iff_ne.mpr c3
   have c3b1 : (a0 != 2) = true := bne_iff_ne.mpr c3
   by_cases c4 : a0 = 3
   ·rw [if_pos c4] at H
    have c4b0 : (a0 == 3) = true := beq_iff_eq.mpr c4
    have c4b1 : (a0 != 3) = false := bne_eq_false_iff_eq.mpr c4
    clear c4
    simp only [Option.some.injEq, Prod.mk.injEq] at H
    obtain ⟨rfl, rfl⟩ := H
    go_enter Tryd.func25, Tryd.ntmps25
    go_wp2
    go_ret2
    exact ⟨by first | rfl | (simp; done) | (simp [*]; done), by repeat (first | exact Drawn0.refl _ | apply Drawn0.step)⟩
   ·rw [if_neg c4] at H
    have c4b0 : (a0 == 3) = false := beq_eq_false_iff_ne.mpr c4
    have c4b1 : (a0 != 3) = true := bne_iff_ne.mpr c4
    simp only [Option.some.injEq, Prod.mk.injEq] at H
    obtain ⟨rfl, rfl⟩ := H
    go_enter Tryd.func25, Tryd.ntmps25
    go_wp2
    go_ret2
    exact ⟨by first | rfl | (simp; done) | (simp [*]; done), by repeat (first | exact Drawn0.refl _ | apply Drawn0.step)⟩

-- BY HAND: function 27 (esc_Name)

-- BY HAND: function 29 (esc_Named)

/-! ### bellmanlaw13_lives: function 24 -/
def bellmanlaw13_lives.f  : Option (Bool) := (esc_To.f 1 (⟨#[97, 34, 10, 1]⟩ : ByteArray)).bind fun bt127 => ((esc_To.f 2 (⟨#[60, 98, 62, 38]⟩ : ByteArray)).bind fun bt129 => ((esc_To.f 3 (⟨#[99, 97, 102, 195, 169, 10, 33]⟩ : ByteArray)).bind fun bt131 => ((esc_From.f 2 (⟨#[38, 108, 116, 59, 98]⟩ : ByteArray)).bind fun bt133 => ((esc_From.f 2 (⟨#[97, 60, 98]⟩ : ByteArray)).bind fun bt135 => ((esc_Most.f 3).bind fun bt137 => ((esc_Name.f 1).bind fun bt139 => ((esc_Named.f (⟨#[101, 109, 97, 105, 108]⟩ : ByteArray)).bind fun bt141 => ((esc_To.f 9 (⟨#[]⟩ : ByteArray)).bind fun bt143 => (if bt127.1.toList = ([97, 92, 34, 92, 110, 92, 117, 48, 48, 48, 49] : List UInt8) then (if bt127.2 = 0 then (if bt129.1.toList = ([38, 108, 116, 59, 98, 38, 103, 116, 59, 38, 97, 109, 112, 59] : List UInt8) then (if bt129.2 = 0 then (if bt131.1.toList = ([99, 97, 102, 63, 32, 33] : List UInt8) then (if bt131.2 = 0 then (if bt133.1.toList = ([60, 98] : List UInt8) then (if bt133.2 = 0 then (if bt135.2 = 7 then (if bt137.1 = 160 then (if bt137.2 = 0 then (if bt139.1.toList = ([112, 117, 115, 104] : List UInt8) then (if bt139.2 = 0 then (if bt141.1 = 2 then (if bt141.2 = 0 then (some (bt143.2 == 1)) else (some false)) else (some false)) else (some false)) else (some false)) else (some false)) else (some false)) else (some false)) else (some false)) else (some false)) else (some false)) else (some false)) else (some false)) else (some false)) else (some false)) else (some false))))))))))
set_option maxHeartbeats 8000000 in
set_option maxRecDepth 100000 in
theorem bellmanlaw13_lives.calls  (r : Bool) (w : World) (h : bellmanlaw13_lives.f  = some r) (hTr : Aside0 (r = true)) (hGlb : Glob w) :
  Calls Tryd.prog 24 #[] w fun e w' => e = .returned (.bool r) ∧ Below w.heap.size w w' := by
 have HB := Aside0.mk (Below.refl w.heap.size w)
 have H : ((esc_To.f 1 (⟨#[97, 34, 10, 1]⟩ : ByteArray)).bind fun bt127 => ((esc_To.f 2 (⟨#[60, 98, 62, 38]⟩ : ByteArray)).bind fun bt129 => ((esc_To.f 3 (⟨#[99, 97, 102, 195, 169, 10, 33]⟩ : ByteArray)).bind fun bt131 => ((esc_From.f 2 (⟨#[38, 108, 116, 59, 98]⟩ : ByteArray)).bind fun bt133 => ((esc_From.f 2 (⟨#[97, 60, 98]⟩ : ByteArray)).bind fun bt135 => ((esc_Most.f 3).bind fun bt137 => ((esc_Name.f 1).bind fun bt139 => ((esc_Named.f (⟨#[101, 109, 97, 105, 108]⟩ : ByteArray)).bind fun bt141 => ((esc_To.f 9 (⟨#[]⟩ : ByteArray)).bind fun bt143 => (if bt127.1.toList = ([97, 92, 34, 92, 110, 92, 117, 48, 48, 48, 49] : List UInt8) then (if bt127.2 = 0 then (if bt129.1.toList = ([38, 108, 116, 59, 98, 38, 103, 116, 59, 38, 97, 109, 112, 59] : List UInt8) then (if bt129.2 = 0 then (if bt131.1.toList = ([99, 97, 102, 63, 32, 33] : List UInt8) then (if bt131.2 = 0 then (if bt133.1.toList = ([60, 98] : List UInt8) then (if bt133.2 = 0 then (if bt135.2 = 7 then (if bt137.1 = 160 then (if bt137.2 = 0 then (if bt139.1.toList = ([112, 117, 115, 104] : List UInt8) then (if bt139.2 = 0 then (if bt141.1 = 2 then (if bt141.2 = 0 then (some (bt143.2 == 1)) else (some false)) else (some false)) else (some false)) else (some false)) else (some false)) else (some false)) else (some false)) else (some false)) else (some false)) else (some false)) else (some false)) else (some false)) else (some false)) else (some false)) else (some false))))))))))) = some r := h
 clear h
 replace H := Option.bind_eq_some_iff.mp H
 obtain ⟨⟨t127, t128⟩, A10, H⟩ := H
 (try dsimp only at H)
 have A1 := Aside0.mk A10
 clear A10
 replace H := Option.bind_eq_some_iff.mp H
 obtain ⟨⟨t129, t130⟩, A20, H⟩ := H
 (try dsimp only at H)
 have A2 := Aside0.mk A20
 clear A20
 replace H := Option.bind_eq_some_iff.mp H
 obtain ⟨⟨t131, t132⟩, A30, H⟩ := H
 (try dsimp only at H)
 have A3 := Aside0.mk A30
 clear A30
 replace H := Option.bind_eq_some_iff.mp H
 obtain ⟨⟨t133, t134⟩, A40, H⟩ := H
 (try dsimp only at H)
 have A4 := Aside0.mk A40
 clear A40
 replace H := Option.bind_eq_some_iff.mp H
 obtain ⟨⟨t135, t136⟩, A50, H⟩ := H
 (try dsimp only at H)
 have A5 := Aside0.mk A50
 clear A50
 replace H := Option.bind_eq_some_iff.mp H
 obtain ⟨⟨t137, t138⟩, A60, H⟩ := H
 (try dsimp only at H)
 have A6 := Aside0.mk A60
 clear A60
 replace H := Option.bind_eq_some_iff.mp H
 obtain ⟨⟨t139, t140⟩, A70, H⟩ := H
 (try dsimp only at H)
 have A7 := Aside0.mk A70
 clear A70
 replace H := Option.bind_eq_some_iff.mp H
 obtain ⟨⟨t141, t142⟩, A80, H⟩ := H
 (try dsimp only at H)
 have A8 := Aside0.mk A80
 clear A80
 replace H := Option.bind_eq_some_iff.mp H
 obtain ⟨⟨t143, t144⟩, A90, H⟩ := H
 (try dsimp only at H)
 have A9 := Aside0.mk A90
 clear A90
 by_cases c10 : t127.toList = ([97, 92, 34, 92, 110, 92, 117, 48, 48, 48, 49] : List UInt8)
 ·rw [if_pos c10] at H
  have c10b0 : (t127.toList == ([97, 92, 34, 92, 110, 92, 117, 48, 48, 48, 49] : List UInt8)) = true := beq_iff_eq.mpr c10
  have c10b1 : (t127.toList != ([97, 92, 34, 92, 110, 92, 117, 48, 48, 48, 49] : List UInt8)) = false := bne_eq_false_iff_eq.mpr c10
  clear c10
  by_cases c11 : t128 = 0
  ·rw [if_pos c11] at H
   have c11b0 : (t128 == 0) = true := beq_iff_eq.mpr c11
   have c11b1 : (t128 != 0) = false := bne_eq_false_iff_eq.mpr c11
   clear c11
   by_cases c12 : t129.toList = ([38, 108, 116, 59, 98, 38, 103, 116, 59, 38, 97, 109, 112, 59] : List UInt8)
   ·rw [if_pos c12] at H
    have c12b0 : (t129.toList == ([38, 108, 116, 59, 98, 38, 103, 116, 59, 38, 97, 109, 112, 59] : List UInt8)) = true := beq_iff_eq.mpr c12
    have c12b1 : (t129.toList != ([38, 108, 116, 59, 98, 38, 103, 116, 59, 38, 97, 109, 112, 59] : List UInt8)) = false := bne_eq_false_iff_eq.mpr c12
    clear c12
    by_cases c13 : t130 = 0
    ·rw [if_pos c13] at H
     have c13b0 : (t130 == 0) = true := beq_iff_eq.mpr c13
     have c13b1 : (t130 != 0) = false := bne_eq_false_iff_eq.mpr c13
     clear c13
     by_cases c14 : t131.toList = ([99, 97, 102, 63, 32, 33] : List UInt8)
     ·rw [if_pos c14] at H
      have c14b0 : (t131.toList == ([99, 97, 102, 63, 32, 33] : List UInt8)) = true := beq_iff_eq.mpr c14
      have c14b1 : (t131.toList != ([99, 97, 102, 63, 32, 33] : List UInt8)) = false := bne_eq_false_iff_eq.mpr c14
      clear c14
      by_cases c15 : t132 = 0
      ·rw [if_pos c15] at H
       have c15b0 : (t132 == 0) = true := beq_iff_eq.mpr c15
       have c15b1 : (t132 != 0) = false := bne_eq_false_iff_eq.mpr c15
       clear c15
       by_cases c16 : t133.toList = ([60, 98] : List UInt8)
       ·rw [if_pos c16] at H
        have c16b0 : (t133.toList == ([60, 98] : List UInt8)) = true := beq_iff_eq.mpr c16
        have c16b1 : (t133.toList != ([60, 98] : List UInt8)) = false := bne_eq_false_iff_eq.mpr c16
        clear c16
        by_cases c17 : t134 = 0
        ·rw [if_pos c17] at H
         have c17b0 : (t134 == 0) = true := beq_iff_eq.mpr c17
         have c17b1 : (t134 != 0) = false := bne_eq_false_iff_eq.mpr c17
         clear c17
         by_cases c18 : t136 = 7
         ·rw [if_pos c18] at H
          have c18b0 : (t136 == 7) = true := beq_iff_eq.mpr c18
          have c18b1 : (t136 != 7) = false := bne_eq_false_iff_eq.mpr c18
          clear c18
          by_cases c19 : t137 = 160
          ·rw [if_pos c19] at H
           have c19b0 : (t137 == 160) = true := beq_iff_eq.mpr c19
           have c19b1 : (t137 != 160) = false := bne_eq_false_iff_eq.mpr c19
           clear c19
           by_cases c20 : t138 = 0
           ·rw [if_pos c20] at H
            have c20b0 : (t138 == 0) = true := beq_iff_eq.mpr c20
            have c20b1 : (t138 != 0) = false := bne_eq_false_iff_eq.mpr c20
            clear c20
            by_cases c21 : t139.toList = ([112, 117, 115, 104] : List UInt8)
            ·rw [if_pos c21] at H
             have c21b0 : (t139.toList == ([112, 117, 115, 104] : List UInt8)) = true := beq_iff_eq.mpr c21
             have c21b1 : (t139.toList != ([112, 117, 115, 104] : List UInt8)) = false := bne_eq_false_iff_eq.mpr c21
             clear c21
             by_cases c22 : t140 = 0
             ·rw [if_pos c22] at H
              have c22b0 : (t140 == 0) = true := beq_iff_eq.mpr c22
              have c22b1 : (t140 != 0) = false := bne_eq_false_iff_eq.mpr c22
              clear c22
              by_cases c23 : t141 = 2
              ·rw [if_pos c23] at H
               have c23b0 : (t141 == 2) = true := beq_iff_eq.mpr c23
               have c23b1 : (t141 != 2) = false := bne_eq_false_iff_eq.mpr c23
               clear c23
               by_cases c24 : t142 = 0
               ·rw [if_pos c24] at H
                have c24b0 : (t142 == 0) = true := beq_iff_eq.mpr c24
                have c24b1 : (t142 != 0) = false := bne_eq_false_iff_eq.mpr c24
                clear c24
                obtain rfl := Option.some.inj H
                go_enter Tryd.func24, Tryd.ntmps24
                go_wp2_with (first | ((with_reducible refine gate_callee (f := 20) rfl ?_); refine goesL_ (some 20) rfl rfl Tryd.func20 (by kernel_rfl) rfl #[.int .u8 1, .string (⟨#[97, 34, 10, 1]⟩ : ByteArray)] rfl (by (try simp only [List.map_toArray, List.map_cons, List.map_nil]); first | done | rfl) ?_; (with_reducible refine (esc_To.calls 1 (⟨#[97, 34, 10, 1]⟩ : ByteArray) t127 t128 _ A1.out).mono ?_); rintro e w25 ⟨rfl, hb⟩; refine ⟨_, rfl, ?_⟩; have n0_ := Aside0.mk (below_step (belS HB.out) hb); clear HB; have HB := n0_; clear n0_; (try clear hb); (try clear hb2); (try clear hk); (try clear hi)) | ((with_reducible refine gate_callee (f := 20) rfl ?_); refine goesL_ (some 24) rfl rfl Tryd.func20 (by kernel_rfl) rfl #[.int .u8 2, .string (⟨#[60, 98, 62, 38]⟩ : ByteArray)] rfl (by (try simp only [List.map_toArray, List.map_cons, List.map_nil]); first | done | rfl) ?_; (with_reducible refine (esc_To.calls 2 (⟨#[60, 98, 62, 38]⟩ : ByteArray) t129 t130 _ A2.out).mono ?_); rintro e w26 ⟨rfl, hb⟩; refine ⟨_, rfl, ?_⟩; have n0_ := Aside0.mk (below_step (belS HB.out) hb); clear HB; have HB := n0_; clear n0_; (try clear hb); (try clear hb2); (try clear hk); (try clear hi)) | ((with_reducible refine gate_callee (f := 20) rfl ?_); refine goesL_ (some 28) rfl rfl Tryd.func20 (by kernel_rfl) rfl #[.int .u8 3, .string (⟨#[99, 97, 102, 195, 169, 10, 33]⟩ : ByteArray)] rfl (by (try simp only [List.map_toArray, List.map_cons, List.map_nil]); first | done | rfl) ?_; (with_reducible refine (esc_To.calls 3 (⟨#[99, 97, 102, 195, 169, 10, 33]⟩ : ByteArray) t131 t132 _ A3.out).mono ?_); rintro e w27 ⟨rfl, hb⟩; refine ⟨_, rfl, ?_⟩; have n0_ := Aside0.mk (below_step (belS HB.out) hb); clear HB; have HB := n0_; clear n0_; (try clear hb); (try clear hb2); (try clear hk); (try clear hi)) | ((with_reducible refine gate_callee (f := 22) rfl ?_); refine goesL_ (some 32) rfl rfl Tryd.func22 (by kernel_rfl) rfl #[.int .u8 2, .string (⟨#[38, 108, 116, 59, 98]⟩ : ByteArray)] rfl (by (try simp only [List.map_toArray, List.map_cons, List.map_nil]); first | done | rfl) ?_; (with_reducible refine (esc_From.calls 2 (⟨#[38, 108, 116, 59, 98]⟩ : ByteArray) t133 t134 _ A4.out).mono ?_); rintro e w28 ⟨rfl, hb⟩; refine ⟨_, rfl, ?_⟩; have n0_ := Aside0.mk (below_step (belS HB.out) hb); clear HB; have HB := n0_; clear n0_; (try clear hb); (try clear hb2); (try clear hk); (try clear hi)) | ((with_reducible refine gate_callee (f := 22) rfl ?_); refine goesL_ (some 36) rfl rfl Tryd.func22 (by kernel_rfl) rfl #[.int .u8 2, .string (⟨#[97, 60, 98]⟩ : ByteArray)] rfl (by (try simp only [List.map_toArray, List.map_cons, List.map_nil]); first | done | rfl) ?_; (with_reducible refine (esc_From.calls 2 (⟨#[97, 60, 98]⟩ : ByteArray) t135 t136 _ A5.out).mono ?_); rintro e w29 ⟨rfl, hb⟩; refine ⟨_, rfl, ?_⟩; have n0_ := Aside0.mk (below_step (belS HB.out) hb); clear HB; have HB := n0_; clear n0_; (try clear hb); (try clear hb2); (try clear hk); (try clear hi)) | ((with_reducible refine gate_callee (f := 25) rfl ?_); refine goesL_ (some 40) rfl rfl Tryd.func25 (by kernel_rfl) rfl #[.int .u8 3] rfl (by (try simp only [List.map_toArray, List.map_cons, List.map_nil]); first | done | rfl) ?_; (with_reducible refine (esc_Most.calls 3 t137 t138 _ A6.out).mono ?_); rintro e w' ⟨rfl, ⟨nd, rfl⟩⟩; refine ⟨_, rfl, ?_⟩) | ((with_reducible refine gate_callee (f := 27) rfl ?_); refine goesL_ (some 44) rfl rfl Tryd.func27 (by kernel_rfl) rfl #[.int .u8 1] rfl (by (try simp only [List.map_toArray, List.map_cons, List.map_nil]); first | done | rfl) ?_; (with_reducible refine (esc_Name.calls 1 t139 t140 _ A7.out (Glob.below hGlb (belS HB.out))).mono ?_); rintro e w' ⟨rfl, ⟨nd, rfl⟩⟩; refine ⟨_, rfl, ?_⟩) | ((with_reducible refine gate_callee (f := 29) rfl ?_); refine goesL_ (some 48) rfl rfl Tryd.func29 (by kernel_rfl) rfl #[.string (⟨#[101, 109, 97, 105, 108]⟩ : ByteArray)] rfl (by (try simp only [List.map_toArray, List.map_cons, List.map_nil]); first | done | rfl) ?_; (with_reducible refine (esc_Named.calls (⟨#[101, 109, 97, 105, 108]⟩ : ByteArray) t141 t142 _ A8.out (Glob.below hGlb (belS HB.out))).mono ?_); rintro e w' ⟨rfl, ⟨nd, rfl⟩⟩; refine ⟨_, rfl, ?_⟩) | ((with_reducible refine gate_callee (f := 20) rfl ?_); refine goesL_ (some 52) rfl rfl Tryd.func20 (by kernel_rfl) rfl #[.int .u8 9, .string (⟨#[]⟩ : ByteArray)] rfl (by (try simp only [List.map_toArray, List.map_cons, List.map_nil]); first | done | rfl) ?_; (with_reducible refine (esc_To.calls 9 (⟨#[]⟩ : ByteArray) t143 t144 _ A9.out).mono ?_); rintro e w30 ⟨rfl, hb⟩; refine ⟨_, rfl, ?_⟩; have n0_ := Aside0.mk (below_step (belS HB.out) hb); clear HB; have HB := n0_; clear n0_; (try clear hb); (try clear hb2); (try clear hk); (try clear hi)))
                go_ret
                exact ⟨by first | rfl | (simp [errW_none, errW_some] <;> rfl) | (simp [*, errW_none, errW_some] <;> rfl), belS HB.out⟩
               ·rw [if_neg c24] at H
                have c24b0 : (t142 == 0) = false := beq_eq_false_iff_ne.mpr c24
                have c24b1 : (t142 != 0) = true := bne_iff_ne.mpr c24
                exact absurd ((Option.some.inj H).trans hTr.out) (by decide)
              ·rw [if_neg c23] at H
               have c23b0 : (t141 == 2) = false := beq_eq_false_iff_ne.mpr c23
               have c23b1 : (t141 != 2) = true := bne_iff_ne.mpr c23
               exact absurd ((Option.some.inj H).trans hTr.out) (by decide)
             ·rw [if_neg c22] at H
              have c22b0 : (t140 == 0) = false := beq_eq_false_iff_ne.mpr c22
              have c22b1 : (t140 != 0) = true := bne_iff_ne.mpr c22
              exact absurd ((Option.some.inj H).trans hTr.out) (by decide)
            ·rw [if_neg c21] at H
             have c21b0 : (t139.toList == ([112, 117, 115, 104] : List UInt8)) = false := beq_eq_false_iff_ne.mpr c21
             have c21b1 : (t139.toList != ([112, 117, 115, 104] : List UInt8)) = true := bne_iff_ne.mpr c21
             exact absurd ((Option.some.inj H).trans hTr.out) (by decide)
           ·rw [if_neg c20] at H
            have c20b0 : (t138 == 0) = false := beq_eq_false_iff_ne.mpr c20
            have c20b1 : (t138 != 0) = true := bne_iff_ne.mpr c20
            exact absurd ((Option.some.inj H).trans hTr.out) (by decide)
          ·rw [if_neg c19] at H
           have c19b0 : (t137 == 160) = false := beq_eq_false_iff_ne.mpr c19
           have c19b1 : (t137 != 160) = true := bne_iff_ne.mpr c19
           exact absurd ((Option.some.inj H).trans hTr.out) (by decide)
         ·rw [if_neg c18] at H
          have c18b0 : (t136 == 7) = false := beq_eq_false_iff_ne.mpr c18
          have c18b1 : (t136 != 7) = true := bne_iff_ne.mpr c18
          exact absurd ((Option.some.inj H).trans hTr.out) (by decide)
        ·rw [if_neg c17] at H
         have c17b0 : (t134 == 0) = false := beq_eq_false_iff_ne.mpr c17
         have c17b1 : (t134 != 0) = true := bne_iff_ne.mpr c17
         exact absurd ((Option.some.inj H).trans hTr.out) (by decide)
       ·rw [if_neg c16] at H
        have c16b0 : (t133.toList == ([60, 98] : List UInt8)) = false := beq_eq_false_iff_ne.mpr c16
        have c16b1 : (t133.toList != ([60, 98] : List UInt8)) = true := bne_iff_ne.mpr c16
        exact absurd ((Option.some.inj H).trans hTr.out) (by decide)
      ·rw [if_neg c15] at H
       have c15b0 : (t132 == 0) = false := beq_eq_false_iff_ne.mpr c15
       have c15b1 : (t132 != 0) = true := bne_iff_ne.mpr c15
       exact absurd ((Option.some.inj H).trans hTr.out) (by decide)
     ·rw [if_neg c14] at H
      have c14b0 : (t131.toList == ([99, 97, 102, 63, 32, 33] : List UInt8)) = false := beq_eq_false_iff_ne.mpr c14
      have c14b1 : (t131.toList != ([99, 97, 102, 63, 32, 33] : List UInt8)) = true := bne_iff_ne.mpr c14
      exact absurd ((Option.some.inj H).trans hTr.out) (by decide)
    ·rw [if_neg c13] at H
     have c13b0 : (t130 == 0) = false := beq_eq_false_iff_ne.mpr c13
     have c13b1 : (t130 != 0) = true := bne_iff_ne.mpr c13
     exact absurd ((Option.some.inj H).trans hTr.out) (by decide)
   ·rw [if_neg c12] at H
    have c12b0 : (t129.toList == ([38, 108, 116, 59, 98, 38, 103, 116, 59, 38, 97, 109, 112, 59] : List UInt8)) = false := beq_eq_false_iff_ne.mpr c12
    have c12b1 : (t129.toList != ([38, 108, 116, 59, 98, 38, 103, 116, 59, 38, 97, 109, 112, 59] : List UInt8)) = true := bne_iff_ne.mpr c12
    exact absurd ((Option.some.inj H).trans hTr.out) (by decide)
  ·rw [if_neg c11] at H
   have c11b0 : (t128 == 0) = false := beq_eq_false_iff_ne.mpr c11
   have c11b1 : (t128 != 0) = true := bne_iff_ne.mpr c11
   exact absurd ((Option.some.inj H).trans hTr.out) (by decide)
 ·rw [if_neg c10] at H
  have c10b0 : (t127.toList == ([97, 92, 34, 92, 110, 92, 117, 48, 48, 48, 49] : List UInt8)) = false := beq_eq_false_iff_ne.mpr c10
  have c10b1 : (t127.toList != ([97, 92, 34, 92, 110, 92, 117, 48, 48, 48, 49] : List UInt8)) = true := bne_iff_ne.mpr c10
  exact absurd ((Option.some.inj H).trans hTr.out) (by decide)

/-! ### bellmanlaw13_EscTexts: function 6 -/
def bellmanlaw13_EscTexts.f (k : Nat) (a0 : Int) (a1 : ByteArray) (a2 : ByteArray) : Option (Bool) := (esc_To.f a0 a1).bind fun bt145 => ((bellmanref13_To.f k a0 a1).bind fun bt147 => ((esc_From.f a0 a2).bind fun bt149 => ((bellmanref13_From.f k a0 a2).bind fun bt151 => ((bellmanlaw13_lives.f).bind fun t153 => (if t153 = true then (if bt145.1.toList = bt147.1.toList then (if bt145.2 = bt147.2 then (if bt149.1.toList = bt151.1.toList then (some (bt149.2 == bt151.2)) else (some false)) else (some false)) else (some false)) else (some false))))))
theorem bellmanlaw13_EscTexts.mono : ∀ a0 a1 a2 k, LeO (bellmanlaw13_EscTexts.f k a0 a1 a2) (bellmanlaw13_EscTexts.f (k + 1) a0 a1 a2) := by
 intro a0 a1 a2 k
 unfold bellmanlaw13_EscTexts.f
 repeat' first
   | (with_reducible exact bellmanref13_From.mono _ _ _)
   | (with_reducible exact bellmanref13_To.mono _ _ _)
   | (with_reducible exact LeO.refl _)
   | (with_reducible exact LeO.none _)
   | (with_reducible refine LeO.ite ?_ ?_)
   | (with_reducible refine LeO.bind ?_ (fun _ => ?_))
   | exact bellmanref13_From.mono _ _ _
   | exact bellmanref13_To.mono _ _ _
   | exact LeO.none _
   | refine LeO.ite ?_ ?_
   | refine LeO.bind ?_ (fun _ => ?_)
set_option maxHeartbeats 8000000 in
set_option maxRecDepth 100000 in
theorem bellmanlaw13_EscTexts.calls (k : Nat) (a0 : Int) (a1 : ByteArray) (a2 : ByteArray) (r : Bool) (w : World) (h : bellmanlaw13_EscTexts.f k a0 a1 a2 = some r) (hTr : Aside0 (r = true)) (hGlb : Glob w) :
  Calls Tryd.prog 6 #[.int .u8 a0, .string a1, .string a2] w fun e w' => e = .returned (.bool r) ∧ Below w.heap.size w w' := by
 have HB := Aside0.mk (Below.refl w.heap.size w)
 have H : ((esc_To.f a0 a1).bind fun bt145 => ((bellmanref13_To.f k a0 a1).bind fun bt147 => ((esc_From.f a0 a2).bind fun bt149 => ((bellmanref13_From.f k a0 a2).bind fun bt151 => ((bellmanlaw13_lives.f).bind fun t153 => (if t153 = true then (if bt145.1.toList = bt147.1.toList then (if bt145.2 = bt147.2 then (if bt149.1.toList = bt151.1.toList then (some (bt149.2 == bt151.2)) else (some false)) else (some false)) else (some false)) else (some false))))))) = some r := h
 clear h
 replace H := Option.bind_eq_some_iff.mp H
 obtain ⟨⟨t145, t146⟩, A40, H⟩ := H
 (try dsimp only at H)
 have A4 := Aside0.mk A40
 clear A40
 replace H := Option.bind_eq_some_iff.mp H
 obtain ⟨⟨t147, t148⟩, A50, H⟩ := H
 (try dsimp only at H)
 have A5 := Aside0.mk A50
 clear A50
 replace H := Option.bind_eq_some_iff.mp H
 obtain ⟨⟨t149, t150⟩, A60, H⟩ := H
 (try dsimp only at H)
 have A6 := Aside0.mk A60
 clear A60
 replace H := Option.bind_eq_some_iff.mp H
 obtain ⟨⟨t151, t152⟩, A70, H⟩ := H
 (try dsimp only at H)
 have A7 := Aside0.mk A70
 clear A70
 replace H := Option.bind_eq_some_iff.mp H
 obtain ⟨t153, A80, H⟩ := H
 (try dsimp only at H)
 have A8 := Aside0.mk A80
 clear A80
 by_cases c9 : t153 = true
 ·subst c9
  rw [if_pos rfl] at H
  by_cases c10 : t145.toList = t147.toList
  ·rw [if_pos c10] at H
   have c10b0 : (t145.toList == t147.toList) = true := beq_iff_eq.mpr c10
   have c10b1 : (t145.toList != t147.toList) = false := bne_eq_false_iff_eq.mpr c10
   clear c10
   by_cases c11 : t146 = t148
   ·rw [if_pos c11] at H
    have c11b0 : (t146 == t148) = true := beq_iff_eq.mpr c11
    have c11b1 : (t146 != t148) = false := bne_eq_false_iff_eq.mpr c11
    clear c11
    by_cases c12 : t149.toList = t151.toList
    ·rw [if_pos c12] at H
     have c12b0 : (t149.toList == t151.toList) = true := beq_iff_eq.mpr c12
     have c12b1 : (t149.toList != t151.toList) = false := bne_eq_false_iff_eq.mpr c12
     clear c12
     obtain rfl := Option.some.inj H
     go_enter Tryd.func6, Tryd.ntmps6
     go_wp2_with (first | ((with_reducible refine gate_callee (f := 20) rfl ?_); refine goesL_ (some 18) rfl rfl Tryd.func20 (by kernel_rfl) rfl #[.int .u8 a0, .string a1] rfl (by (try simp only [List.map_toArray, List.map_cons, List.map_nil]); first | done | rfl) ?_; (with_reducible refine (esc_To.calls a0 a1 t145 t146 _ A4.out).mono ?_); rintro e w13 ⟨rfl, hb⟩; refine ⟨_, rfl, ?_⟩; have n0_ := Aside0.mk (below_step (belS HB.out) hb); clear HB; have HB := n0_; clear n0_; (try clear hb); (try clear hb2); (try clear hk); (try clear hi)) | ((with_reducible refine gate_callee (f := 21) rfl ?_); refine goesL_ (some 24) rfl rfl Tryd.func21 (by kernel_rfl) rfl #[.int .u8 a0, .string a1] rfl (by (try simp only [List.map_toArray, List.map_cons, List.map_nil]); first | done | rfl) ?_; (with_reducible refine (bellmanref13_To.calls k a0 a1 t147 t148 _ A5.out).mono ?_); rintro e w14 ⟨rfl, hb⟩; refine ⟨_, rfl, ?_⟩; have n0_ := Aside0.mk (below_step (belS HB.out) hb); clear HB; have HB := n0_; clear n0_; (try clear hb); (try clear hb2); (try clear hk); (try clear hi)) | ((with_reducible refine gate_callee (f := 22) rfl ?_); refine goesL_ (some 30) rfl rfl Tryd.func22 (by kernel_rfl) rfl #[.int .u8 a0, .string a2] rfl (by (try simp only [List.map_toArray, List.map_cons, List.map_nil]); first | done | rfl) ?_; (with_reducible refine (esc_From.calls a0 a2 t149 t150 _ A6.out).mono ?_); rintro e w15 ⟨rfl, hb⟩; refine ⟨_, rfl, ?_⟩; have n0_ := Aside0.mk (below_step (belS HB.out) hb); clear HB; have HB := n0_; clear n0_; (try clear hb); (try clear hb2); (try clear hk); (try clear hi)) | ((with_reducible refine gate_callee (f := 23) rfl ?_); refine goesL_ (some 36) rfl rfl Tryd.func23 (by kernel_rfl) rfl #[.int .u8 a0, .string a2] rfl (by (try simp only [List.map_toArray, List.map_cons, List.map_nil]); first | done | rfl) ?_; (with_reducible refine (bellmanref13_From.calls k a0 a2 t151 t152 _ A7.out).mono ?_); rintro e w16 ⟨rfl, hb⟩; refine ⟨_, rfl, ?_⟩; have n0_ := Aside0.mk (below_step (belS HB.out) hb); clear HB; have HB := n0_; clear n0_; (try clear hb); (try clear hb2); (try clear hk); (try clear hi)) | ((with_reducible refine gate_callee (f := 24) rfl ?_); refine goesL_ (some 39) rfl rfl Tryd.func24 (by kernel_rfl) rfl #[] rfl (by (try simp only [List.map_toArray, List.map_cons, List.map_nil]); first | done | rfl) ?_; (with_reducible refine (bellmanlaw13_lives.calls  true _ A8.out (Aside0.mk rfl) (Glob.below hGlb (belS HB.out))).mono ?_); rintro e w17 ⟨rfl, hb⟩; refine ⟨_, rfl, ?_⟩; have n0_ := Aside0.mk (below_step (belS HB.out) hb); clear HB; have HB := n0_; clear n0_; (try clear hb); (try clear hb2); (try clear hk); (try clear hi)))
     go_ret
     exact ⟨by first | rfl | (simp [errW_none, errW_some] <;> rfl) | (simp [*, errW_none, errW_some] <;> rfl), belS HB.out⟩
    ·rw [if_neg c12] at H
     have c12b0 : (t149.toList == t151.toList) = false := beq_eq_false_iff_ne.mpr c12
     have c12b1 : (t149.toList != t151.toList) = true := bne_iff_ne.mpr c12
     exact absurd ((Option.some.inj H).trans hTr.out) (by decide)
   ·rw [if_neg c11] at H
    have c11b0 : (t146 == t148) = false := beq_eq_false_iff_ne.mpr c11
    have c11b1 : (t146 != t148) = true := bne_iff_ne.mpr c11
    exact absurd ((Option.some.inj H).trans hTr.out) (by decide)
  ·rw [if_neg c10] at H
   have c10b0 : (t145.toList == t147.toList) = false := beq_eq_false_iff_ne.mpr c10
   have c10b1 : (t145.toList != t147.toList) = true := bne_iff_ne.mpr c10
   exact absurd ((Option.some.inj H).trans hTr.out) (by decide)
 ·replace c9 := Bool.eq_false_iff.mpr c9
  subst c9
  have H1 : (some false) = some r := by rw [if_neg (show ¬ (false = true) by decide)] at H; exact H
  clear H
  have H := H1
  clear H1
  exact absurd ((Option.some.inj H).trans hTr.out) (by decide)

/-- THE ONE PURE STATEMENT of bellmanlaw13_EscTexts: yours. -/
def bellmanlaw13_EscTexts.Pure : Prop := ∀ (a0 : Int) (a1 : ByteArray) (a2 : ByteArray), (Lit.int .u8 a0).wf = true → a1.size ≤ 140737488351232 → a2.size ≤ 140737488351232 → ∃ k, bellmanlaw13_EscTexts.f k a0 a1 a2 = some true
theorem bellmanlaw13_EscTexts.walk (P : bellmanlaw13_EscTexts.Pure) (a0 : Int) (a1 : ByteArray) (a2 : ByteArray) (w : World) (w0 : (Lit.int .u8 a0).wf = true) (w1 : a1.size ≤ 140737488351232) (w2 : a2.size ≤ 140737488351232) (hGlb : Glob w) :
  Calls Tryd.prog 6 #[.int .u8 a0, .string a1, .string a2] w fun e w' => e = .returned (.bool true) ∧ Below w.heap.size w w' := by
 obtain ⟨k, h⟩ := P a0 a1 a2 w0 w1 w2
 refine (bellmanlaw13_EscTexts.calls k a0 a1 a2 true w h (Aside0.mk rfl) (globS hGlb)).mono ?_
 rintro e w' ⟨rfl, hd⟩
 exact ⟨rfl, hd⟩

/-! ### bellmanref13_Most: function 26 -/
def bellmanref13_Most.f (a0 : Int) : Option (Int × Int) := if a0 = 1 then (some (256, 0)) else (if a0 = 2 then (some (2048, 0)) else (if a0 = 3 then (some (160, 0)) else (some (0, 1))))
set_option maxHeartbeats 8000000 in
set_option maxRecDepth 100000 in
theorem bellmanref13_Most.calls (a0 : Int) (r1 : Int) (r2 : Int) (w : World) (h : bellmanref13_Most.f a0 = some (r1, r2)) :
  Calls Tryd.prog 26 #[.int .u8 a0] w fun e w' => e = .returned (.tuple #[.int .i64 r1, .int .i64 r2]) ∧ Drawn0 w w' := by
 have H : (if a0 = 1 then (some (256, 0)) else (if a0 = 2 then (some (2048, 0)) else (if a0 = 3 then (some (160, 0)) else (some (0, 1))))) = some (r1, r2) := h
 clear h
 by_cases c2 : a0 = 1
 ·rw [if_pos c2] at H
  have c2b0 : (a0 == 1) = true := beq_iff_eq.mpr c2
  have c2b1 : (a0 != 1) = false := bne_eq_false_iff_eq.mpr c2
  clear c2
  simp only [Option.some.injEq, Prod.mk.injEq] at H
  obtain ⟨rfl, rfl⟩ := H
  go_enter Tryd.func26, Tryd.ntmps26
  go_wp2
  go_ret2
  exact ⟨by first | rfl | (simp; done) | (simp [*]; done), by repeat (first | exact Drawn0.refl _ | apply Drawn0.step)⟩
 ·rw [if_neg c2] at H
  have c2b0 : (a0 == 1) = false := beq_eq_false_iff_ne.mpr c2
  have c2b1 : (a0 != 1) = true := bne_iff_ne.mpr c2
  by_cases c3 : a0 = 2
  ·rw [if_pos c3] at H
   have c3b0 : (a0 == 2) = true := beq_iff_eq.mpr c3
   have c3b1 : (a0 != 2) = false := bne_eq_false_iff_eq.mpr c3
   clear c3
   simp only [Option.some.injEq, Prod.mk.injEq] at H
   obtain ⟨rfl, rfl⟩ := H
   go_enter Tryd.func26, Tryd.ntmps26
   go_wp2
   go_ret2
   exact ⟨by first | rfl | (simp; done) | (simp [*]; done), by repeat (first | exact Drawn0.refl _ | apply Drawn0.step)⟩
  ·rw [if_neg c3] at H
   have c3b0 : (a0 == 2) = false := beq_eq_false_iff_ne.mpr c3
   have c3b1 : (a0 != 2) = true := bne_iff_ne.mpr c3
   by_cases c4 : a0 = 3
   ·rw [if_pos c4] at H
    have c4b0 : (a0 == 3) = true := beq_iff_eq.mpr c4
    have c4b1 : (a0 != 3) = false := bne_eq_false_iff_eq.mpr c4
    clear c4
    simp only [Option.some.injEq, Prod.mk.injEq] at H
    obtain ⟨rfl, rfl⟩ := H
    go_enter Tryd.func26, Tryd.ntmps26
    go_wp2
    go_ret2
    exact ⟨by first | rfl | (simp; done) | (simp [*]; done), by repeat (first | exact Drawn0.refl _ | apply Drawn0.step)⟩
   ·rw [if_neg c4] at H
    have c4b0 : (a0 == 3) = false := beq_eq_false_iff_ne.mpr c4
    have c4b1 : (a0 != 3) = true := bne_iff_ne.mpr c4
    simp only [Option.some.injEq, Prod.mk.injEq] at H
    obtain ⟨rfl, rfl⟩ := H
    go_enter Tryd.func26, Tryd.ntmps26
    go_wp2
    go_ret2
    exact ⟨by first | rfl | (simp; done) | (simp [*]; done), by repeat (first | exact Drawn0.refl _ | apply Drawn0.step)⟩

end Go.Proofs.YtcbdihhnoicabaaDoor.PE
