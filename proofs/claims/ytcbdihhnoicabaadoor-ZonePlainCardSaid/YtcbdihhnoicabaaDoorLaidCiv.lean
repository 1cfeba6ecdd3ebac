/- What the listed variable of the civil rows holds when the call begins, out of the row's own hypothesis. -/
import Derived.Test.YtcbdihhnoicabaaDoorRows
import Derived.Test.YtcbdihhnoicabaaDoorHand
import Derived.OpenShut
import Derived.LaidHandle
import Derived.LaidMore
namespace Go.Proofs.YtcbdihhnoicabaaDoor.Hand
open Go.RowKit
theorem gBefore : Tryd.prog.globalNamed "bellman/civil.before" = some 1 := by kernel_rfl
theorem tBefore : (Tryd.prog.globals[1]?).map (·.type) = some 90 := by kernel_rfl
theorem cellsInt : Tryd.prog.cellsOf 3 = 1 := by kernel_rfl
def civLaid : List (String × DataW Unit) := [("bellman/civil.before", Rows.laid_bellman_civil_before)]
theorem before_cells {W : World} {fuel : Nat} {cs : Array Value} {q : List MemPlace}
    (hd : DataW.trod (fun _ => ()) Tryd.prog W 0 (fun _ => true) false fuel 90 cs.toList = some (Rows.laid_bellman_civil_before, q)) :
    ∀ i : Nat, i < 13 → cs[i]? = some (.int .i64 (beforeL.getD i 0)) := by
  obtain ⟨xs, m1, rfl, hx1, hlen, hn3, hel⟩ := DataW.trod_array Tryd.underlying90 hd
  simp only [Prod.mk.injEq, Rows.laid_bellman_civil_before, DataW.agg.injEq] at hx1
  obtain ⟨hx1, _⟩ := hx1
  intro i hi
  have hi' := hel i hi
  have hxi : xs[i]? = some xs[i] := List.getElem?_eq_getElem (by omega)
  rw [hxi, cellsInt, Nat.mul_one] at hi'
  obtain ⟨k, e1, e2, _⟩ := DataW.trod_int Tryd.underlying3 hi'
  have hm : (xs.map (·.1))[i]? = some (.lit (.int .i64 k)) := by rw [List.getElem?_map, hxi, e2]; rfl
  rw [← hx1] at hm
  have hk : k = beforeL.getD i 0 := by
    have : ∀ j : Nat, j < 13 → ([.lit (.int .i64 0), .lit (.int .i64 31), .lit (.int .i64 59), .lit (.int .i64 90), .lit (.int .i64 120), .lit (.int .i64 151), .lit (.int .i64 181), .lit (.int .i64 212), .lit (.int .i64 243), .lit (.int .i64 273), .lit (.int .i64 304), .lit (.int .i64 334), .lit (.int .i64 365)] : List (DataW Unit))[j]? = some (.lit (.int .i64 (beforeL.getD j 0))) := by
      intro j hj
      match j, hj with
      | 0, _ => rfl | 1, _ => rfl | 2, _ => rfl | 3, _ => rfl | 4, _ => rfl | 5, _ => rfl | 6, _ => rfl | 7, _ => rfl | 8, _ => rfl | 9, _ => rfl | 10, _ => rfl | 11, _ => rfl | 12, _ => rfl
    rw [this i hi] at hm
    simp only [Option.some.injEq, DataW.lit.injEq, Lit.int.injEq, true_and] at hm
    exact hm.symm
  subst hk
  have hh := congrArg List.head? e1
  rw [List.head?_take, if_neg (by decide), List.head?_drop] at hh
  simpa using hh
theorem glob_of_laid {W : World} (h : laidMetH Tryd.prog civLaid W) : Glob W := by
  rw [MakeChecks.laidMetH_plain _ _ _ (by kernel_rfl)] at h
  obtain ⟨ps, ⟨g0, t0, cs0, f0, p0, q0, hg0, ht0, hv0, hd0, _, _⟩, _⟩ := h
  obtain rfl := Option.some.inj (gBefore.symm.trans hg0)
  obtain rfl := Option.some.inj (tBefore.symm.trans ht0)
  intro i hi
  rw [World.var?_cell hg0 hv0 i]
  exact before_cells hd0 i hi
theorem door_met (os : Os) (args : Array Value) : laidMetH Tryd.prog civLaid ((World.doorLaid Tryd.prog 400 os).forCall (fun _ _ => 0) ⟨#[], args, []⟩).memory :=
  laidMetH_of_parts3 (fuel := 8) (laidMet_of_run' 14 (by kernel_rfl) (by kernel_rfl)) (by kernel_rfl) (by kernel_rfl)
end Go.Proofs.YtcbdihhnoicabaaDoor.Hand
