/- esc.Name and esc.Named over the listed table of names; what the table holds when the call begins. -/
import Derived.Test.YtcbdihhnoicabaaDoorEscTexts
import Derived.Test.YtcbdihhnoicabaaDoorRows
import Derived.OpenShut
import Derived.LaidHandle
import Derived.LaidMore
namespace Go.Proofs.YtcbdihhnoicabaaDoor.Esc
open Go.RowKit Go.Proofs.YtcbdihhnoicabaaDoor.Bld Go.Proofs.YtcbdihhnoicabaaDoor.Short Go.Proofs.YtcbdihhnoicabaaDoorW.PrintWords
def nameL (i : Nat) : List UInt8 := match i with
  | 1 => [112, 117, 115, 104]
  | 2 => [101, 109, 97, 105, 108]
  | 3 => [115, 109, 115]
  | _ => []
def Glob (w : World) : Prop := ∀ i : Nat, i < 4 → w.cell? ⟨0, i, none⟩ = some (.string ⟨(nameL i).toArray⟩)
theorem Glob.drewN {w : World} (h : Glob w) (n : Nat) : Glob (w.drewN n) := h
theorem Glob.below {w w' : World} (h : Glob w) (hb : Below w.heap.size w w') : Glob w' := fun i hi => pw_cell_below hb (h i hi)
theorem globS {w X : World} (h : Glob w) [s : Stp w X] : Glob X := h.below s.out
def esc_Name.f (a0 : Int) : Option (ByteArray × Int) := if 0 ≤ a0 then (if 1 ≤ a0 ∧ a0 ≤ 3 then some (⟨(nameL a0.toNat).toArray⟩, 0) else some (⟨#[]⟩, 1)) else none
theorem esc_Name.calls (a0 : Int) (r1 : ByteArray) (r2 : Int) (w : World) (h : esc_Name.f a0 = some (r1, r2)) (hG : Glob w) :
    Calls Tryd.prog 27 #[.int .u8 a0] w fun e w' => e = .returned (.tuple #[.string r1, .int .i64 r2]) ∧ Drawn0 w w' := by
  unfold esc_Name.f at h
  by_cases h0 : 0 ≤ a0
  · rw [if_pos h0] at h
    by_cases hc : 1 ≤ a0 ∧ a0 ≤ 3
    · rw [if_pos hc] at h
      simp only [Option.some.injEq, Prod.mk.injEq] at h
      obtain ⟨rfl, rfl⟩ := h
      have g := hG a0.toNat (by omega)
      generalize nameL a0.toNat = l at *
      obtain ⟨b0, b1⟩ := hc
      clear hG
      go_enter Tryd.func27, Tryd.ntmps27
      go_wp2_with fail
      refine (is_any a0 h0 _).mono ?_
      rw [decide_eq_true ⟨b0, b1⟩]
      rintro e w1 ⟨rfl, rfl⟩
      go_wp2
      go_ret2
      exact ⟨rfl, Drawn0.refl _⟩
    · rw [if_neg hc] at h
      simp only [Option.some.injEq, Prod.mk.injEq] at h
      obtain ⟨rfl, rfl⟩ := h
      clear hG
      go_enter Tryd.func27, Tryd.ntmps27
      go_wp2_with fail
      refine (is_any a0 h0 _).mono ?_
      rw [decide_eq_false hc]
      rintro e w1 ⟨rfl, rfl⟩
      go_wp2
      go_ret2
      exact ⟨rfl, Drawn0.refl _⟩
  · rw [if_neg h0] at h; cases h
def namedI (l : List UInt8) : Int × Int := if l = nameL 1 then (1, 0) else if l = nameL 2 then (2, 0) else if l = nameL 3 then (3, 0) else (0, 13)
def esc_Named.f (a0 : ByteArray) : Option (Int × Int) := some (namedI a0.toList)
theorem named_any (s : ByteArray) (w : World) (hG : Glob w) :
    Calls Tryd.prog 29 #[.string s] w fun e w' => e = .returned (.tuple #[.int .u8 (namedI s.toList).1, .int .i64 (namedI s.toList).2]) ∧ Drawn0 w w' := by
  have g1 := hG 1 (by omega)
  have g2 := hG 2 (by omega)
  have g3 := hG 3 (by omega)
  clear hG
  obtain ⟨r, hr⟩ : ∃ r, namedI s.toList = r := ⟨_, rfl⟩
  rw [hr]
  unfold namedI at hr
  by_cases c1 : s.toList = nameL 1
  · rw [if_pos c1] at hr
    subst hr
    have t1 : (nameL 1 == s.toList) = true := by rw [beq_iff_eq]; exact c1.symm
    clear c1
    go_enter Tryd.func29, Tryd.ntmps29
    go_wp2
    refine wp_loop_rounds 1 ?_
    rw [rounds_succ]
    go_wp2
    go_ret2
    exact ⟨rfl, Drawn0.refl _⟩
  · rw [if_neg c1] at hr
    have t1 : (nameL 1 == s.toList) = false := by rw [beq_eq_false_iff_ne]; exact fun h => c1 h.symm
    by_cases c2 : s.toList = nameL 2
    · rw [if_pos c2] at hr
      subst hr
      have t2 : (nameL 2 == s.toList) = true := by rw [beq_iff_eq]; exact c2.symm
      clear c1 c2
      go_enter Tryd.func29, Tryd.ntmps29
      go_wp2
      refine wp_loop_rounds 2 ?_
      rw [rounds_succ]
      go_wp2
      rw [rounds_succ]
      go_wp2
      go_ret2
      exact ⟨rfl, Drawn0.refl _⟩
    · rw [if_neg c2] at hr
      have t2 : (nameL 2 == s.toList) = false := by rw [beq_eq_false_iff_ne]; exact fun h => c2 h.symm
      by_cases c3 : s.toList = nameL 3
      · rw [if_pos c3] at hr
        subst hr
        have t3 : (nameL 3 == s.toList) = true := by rw [beq_iff_eq]; exact c3.symm
        clear c1 c2 c3
        go_enter Tryd.func29, Tryd.ntmps29
        go_wp2
        refine wp_loop_rounds 3 ?_
        rw [rounds_succ]
        go_wp2
        rw [rounds_succ]
        go_wp2
        rw [rounds_succ]
        go_wp2
        go_ret2
        exact ⟨rfl, Drawn0.refl _⟩
      · rw [if_neg c3] at hr
        subst hr
        have t3 : (nameL 3 == s.toList) = false := by rw [beq_eq_false_iff_ne]; exact fun h => c3 h.symm
        clear c1 c2 c3
        go_enter Tryd.func29, Tryd.ntmps29
        go_wp2
        refine wp_loop_rounds 4 ?_
        rw [rounds_succ]
        go_wp2
        rw [rounds_succ]
        go_wp2
        rw [rounds_succ]
        go_wp2
        rw [rounds_succ]
        go_wp2
        go_ret2
        exact ⟨rfl, Drawn0.refl _⟩
theorem esc_Named.calls (a0 : ByteArray) (r1 r2 : Int) (w : World) (h : esc_Named.f a0 = some (r1, r2)) (hG : Glob w) :
    Calls Tryd.prog 29 #[.string a0] w fun e w' => e = .returned (.tuple #[.int .u8 r1, .int .i64 r2]) ∧ Drawn0 w w' := by
  have := named_any a0 w hG
  rw [show namedI a0.toList = (r1, r2) from Option.some.inj h] at this
  exact this
theorem gNames : Tryd.prog.globalNamed "bellman/esc.names" = some 0 := by kernel_rfl
theorem tNames : (Tryd.prog.globals[0]?).map (·.type) = some 78 := by kernel_rfl
theorem cellsStr : Tryd.prog.cellsOf 9 = 1 := by kernel_rfl
def escLaid : List (String × DataW Unit) := [("bellman/esc.names", Rows.laid_bellman_esc_names)]
theorem names_cells {W : World} {fuel : Nat} {cs : Array Value} {q : List MemPlace}
    (hd : DataW.trod (fun _ => ()) Tryd.prog W 0 (fun _ => true) false fuel 78 cs.toList = some (Rows.laid_bellman_esc_names, q)) :
    ∀ i : Nat, i < 4 → cs[i]? = some (.string ⟨(nameL i).toArray⟩) := by
  obtain ⟨xs, m1, rfl, hx1, hlen, hn3, hel⟩ := DataW.trod_array Tryd.underlying78 hd
  simp only [Prod.mk.injEq, Rows.laid_bellman_esc_names, DataW.agg.injEq] at hx1
  obtain ⟨hx1, _⟩ := hx1
  intro i hi
  have hi' := hel i hi
  have hxi : xs[i]? = some xs[i] := List.getElem?_eq_getElem (by omega)
  rw [hxi, cellsStr, Nat.mul_one] at hi'
  obtain ⟨k, e1, e2, _⟩ := DataW.trod_string Tryd.underlying9 hi'
  have hm : (xs.map (·.1))[i]? = some (.lit (.string k.data.toList)) := by rw [List.getElem?_map, hxi, e2]; rfl
  rw [← hx1] at hm
  have hk : k.data.toList = nameL i := by
    have : ∀ j : Nat, j < 4 → ([.lit (.string []), .lit (.string [112, 117, 115, 104]), .lit (.string [101, 109, 97, 105, 108]), .lit (.string [115, 109, 115])] : List (DataW Unit))[j]? = some (.lit (.string (nameL j))) := by
      intro j hj
      match j, hj with
      | 0, _ => rfl | 1, _ => rfl | 2, _ => rfl | 3, _ => rfl
    rw [this i hi] at hm
    simp only [Option.some.injEq, DataW.lit.injEq, Lit.string.injEq] at hm
    exact hm.symm
  obtain rfl := str_eq hk
  have hh := congrArg List.head? e1
  rw [List.head?_take, if_neg (by decide), List.head?_drop] at hh
  simpa using hh
theorem glob_of_laid {W : World} (h : laidMetH Tryd.prog escLaid W) : Glob W := by
  rw [MakeChecks.laidMetH_plain _ _ _ (by kernel_rfl)] at h
  obtain ⟨ps, ⟨g0, t0, cs0, f0, p0, q0, hg0, ht0, hv0, hd0, _, _⟩, _⟩ := h
  obtain rfl := Option.some.inj (gNames.symm.trans hg0)
  obtain rfl := Option.some.inj (tNames.symm.trans ht0)
  intro i hi
  rw [World.var?_cell hg0 hv0 i]
  exact names_cells hd0 i hi
theorem door_met (os : Os) (args : Array Value) : laidMetH Tryd.prog escLaid ((World.doorLaid Tryd.prog 400 os).forCall (fun _ _ => 0) ⟨#[], args, []⟩).memory :=
  laidMetH_of_parts3 (fuel := 8) (laidMet_of_run' 14 (by kernel_rfl) (by kernel_rfl)) (by kernel_rfl) (by kernel_rfl)
end Go.Proofs.YtcbdihhnoicabaaDoor.Esc
