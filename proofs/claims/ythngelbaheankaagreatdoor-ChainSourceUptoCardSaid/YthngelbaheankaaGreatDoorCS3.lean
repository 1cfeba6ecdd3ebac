/- Part 3 of the proof (texts of this claim, merged in build order; what the claim does not need has been left out). -/
import Derived.Test.YthngelbaheankaaGreatDoorCS2
import Derived.KernelRfl
import Derived.LaidHandle
import Derived.LaidMore
import Derived.Lay
import Derived.Lib.LaidTab
import Derived.OpenShut
import Derived.Shelf.Vars
import Derived.Stop.LaidErr
import Derived.Test.YthngelbaheankaaGreatDoorRows
set_option linter.unusedVariables false
set_option linter.unusedSimpArgs false
namespace Go.Proofs.YthngelbaheankaaGreatDoor.Tpl
open Go.RowKit Go.ChangeShapes Go.WideShapes Go.Proofs.YthngelbaheankaaGreatDoor.PB Go.Proofs.YthngelbaheankaaGreatDoorW.PrintWords
section
variable {H : Type} {enc : TypeId × Value → H} {W : World}
theorem open_cat {fuel : Nat} {cs : List Value} {x : DataW H × List MemPlace} (h : DataW.trod enc Tryz.prog W 0 (fun _ => true) true fuel 37 cs = some x) :
    ∃ (v : Cat) (A : Option Addr) (c : Nat), cs = [.string (bs v.n), .bool v.cr, .int .i64 v.w, .int .i64 v.b, .slice A v.ch.length c, .string (bs v.s)] ∧ RdL W A c v.ch ∧ (Rows.uptoBulk x.1 ≤ 1048576 → v.sm) := by
  obtain ⟨xs, m, _, rfl, hl, hxs, hf⟩ := DataW.trod_struct Tryz.underlying37 h
  rw [cells_cat] at hl
  have f0 := hf 0 _ rfl
  have f1 := hf 1 _ rfl
  have f2 := hf 2 _ rfl
  have f3 := hf 3 _ rfl
  have f4 := hf 4 _ rfl
  have f5 := hf 5 _ rfl
  simp only [List.getElem_toArray, List.getElem_cons_zero, List.getElem_cons_succ, cells_strs] at f0
  simp only [List.getElem_toArray, List.getElem_cons_zero, List.getElem_cons_succ, cells_bool] at f1
  simp only [List.getElem_toArray, List.getElem_cons_zero, List.getElem_cons_succ, cells_int64] at f2
  simp only [List.getElem_toArray, List.getElem_cons_zero, List.getElem_cons_succ, cells_int] at f3
  simp only [List.getElem_toArray, List.getElem_cons_zero, List.getElem_cons_succ, cells_levs] at f4
  simp only [List.getElem_toArray, List.getElem_cons_zero, List.getElem_cons_succ, cells_strs] at f5
  obtain ⟨v, A, c, rfl, hR, hs⟩ := open_cat6 m xs cs hxs hl f0 f1 f2 f3 f4 f5
  refine ⟨v, A, c, rfl, hR, fun hb => ?_⟩
  simp only [Rows.uptoBulk] at hb
  exact hs (by omega)
end
end Go.Proofs.YthngelbaheankaaGreatDoor.Tpl
namespace Go.Proofs.YthngelbaheankaaGreatDoor.Tpl
open Go.RowKit
theorem gErr : Tryz.prog.globalNamed "bellman/tree.errPair" = some 2 := by kernel_rfl
theorem tErr : (Tryz.prog.globals[2]?).map (·.type) = some 80 := by kernel_rfl
theorem starErr : "*" ++ "errors.errorString" = "*errors.errorString" := by decide
theorem rowErr (u : TypeId) (h : Tryz.prog.typeName? 3 u = some "*errors.errorString") : u = 305 :=
  typeName_ptr_named (nm := "errors.errorString") (by rw [starErr]; kernel_rfl) (by kernel_rfl) (by decide) u (by rw [starErr]; exact h)
theorem glob_of_sentinel {W : World} {r : List (String × DataW Unit)} (hW : W.ShapedOpen Tryz.prog) (h : laidMet Tryz.prog (("bellman/tree.errPair", Rows.laid_bellman_tree_errPair) :: r) W) : Glob W := by
  refine ⟨cell_of_shapedOpen_int (g := 5) (zero := #[.int .i64 0]) (t := 3) hW (of_decide_eq_true (by kernel_rfl)) (by kernel_rfl) rfl (by kernel_rfl) (by kernel_rfl) Tryz.underlying3, ?_⟩
  obtain ⟨a, s, hv, _⟩ := laid_sentinel (n := "bellman/tree.errPair") (nm := "*errors.errorString") h gErr tErr Tryz.underlying80 rowErr Tryz.underlying305 Tryz.underlying323 rfl rfl Tryz.underlying9 (by kernel_rfl) (by kernel_rfl)
  exact ⟨a, by simpa using World.var?_cell gErr hv 0⟩
end Go.Proofs.YthngelbaheankaaGreatDoor.Tpl
namespace Go.Proofs.YthngelbaheankaaGreatDoor.Tpl
open Go.RowKit Go.Proofs.YthngelbaheankaaGreatDoorW.PrintWords
def chainLaid : List (String × DataW Unit) := [("unicode/utf8.acceptRanges", Rows.laid_unicode_utf8_acceptRanges), ("errors.errorType", Rows.laid_errors_errorType), ("bellman/esc.names", Rows.laid_bellman_esc_names), ("bellman/tree.errPair", Rows.laid_bellman_tree_errPair), ("bellman/chain.asked", Rows.laid_bellman_chain_asked), ("unicode/utf8.first", Rows.laid_unicode_utf8_first)]
def chainPlain : List (String × DataW Unit) := [("unicode/utf8.acceptRanges", Rows.laid_unicode_utf8_acceptRanges), ("bellman/esc.names", Rows.laid_bellman_esc_names), ("bellman/tree.errPair", Rows.laid_bellman_tree_errPair), ("bellman/chain.asked", Rows.laid_bellman_chain_asked), ("unicode/utf8.first", Rows.laid_unicode_utf8_first)]
theorem gTypC : Tryz.prog.globalNamed "errors.errorType" = some 1 := by kernel_rfl
theorem rtNC : (Tryz.prog.cutTypes.find? (·.1 == "internal/reflectlite.rtype")).map (·.2) = some 211 := by kernel_rfl
theorem errRowC : ((List.range Tryz.prog.types.size).filter fun t => Tryz.prog.rowNamed t [101, 114, 114, 111, 114]) = [80] := by kernel_rfl
theorem gNamC : Tryz.prog.globalNamed "bellman/esc.names" = some 4 := by kernel_rfl
theorem gAskC : Tryz.prog.globalNamed "bellman/chain.asked" = some 3 := by kernel_rfl
theorem tNamC : (Tryz.prog.globals[4]?).map (·.type) = some 252 := by kernel_rfl
theorem tAskC : (Tryz.prog.globals[3]?).map (·.type) = some 224 := by kernel_rfl
theorem cellsStrC : Tryz.prog.cellsOf 9 = 1 := by kernel_rfl
def namCL : List (List UInt8) := [[], [112, 117, 115, 104], [101, 109, 97, 105, 108], [115, 109, 115]]
theorem namC_cells {W : World} {fuel : Nat} {cs : Array Value} {q : List MemPlace}
    (hd : DataW.trod (fun _ => ()) Tryz.prog W 0 (fun _ => true) false fuel 252 cs.toList = some (Rows.laid_bellman_esc_names, q)) :
    ∀ i : Nat, i < 4 → cs[i]? = some (.string ⟨(namCL.getD i []).toArray⟩) := by
  obtain ⟨xs, m1, rfl, hx1, hlen, hn3, hel⟩ := DataW.trod_array Tryz.underlying252 hd
  simp only [Prod.mk.injEq, Rows.laid_bellman_esc_names, DataW.agg.injEq] at hx1
  obtain ⟨hx1, _⟩ := hx1
  intro i hi
  have hi' := hel i hi
  have hxi : xs[i]? = some xs[i] := List.getElem?_eq_getElem (by omega)
  rw [hxi, cellsStrC, Nat.mul_one] at hi'
  obtain ⟨k, e1, e2, _⟩ := DataW.trod_string Tryz.underlying9 hi'
  have hm : (xs.map (·.1))[i]? = some (.lit (.string k.data.toList)) := by rw [List.getElem?_map, hxi, e2]; rfl
  rw [← hx1] at hm
  have hk : k.data.toList = namCL.getD i [] := by
    have : ∀ j : Nat, j < 4 → ([.lit (.string []), .lit (.string [112, 117, 115, 104]), .lit (.string [101, 109, 97, 105, 108]), .lit (.string [115, 109, 115])] : List (DataW Unit))[j]? = some (.lit (.string (namCL.getD j []))) := by
      intro j hj
      match j, hj with
      | 0, _ => rfl | 1, _ => rfl | 2, _ => rfl | 3, _ => rfl
    rw [this i hi] at hm
    simp only [Option.some.injEq, DataW.lit.injEq, Lit.string.injEq] at hm
    exact hm.symm
  have hk2 : k = ⟨(namCL.getD i []).toArray⟩ := by rw [← hk]
  subst hk2
  have hh := congrArg List.head? e1
  rw [List.head?_take, if_neg (by decide), List.head?_drop] at hh
  simpa using hh
def askCL : List (List UInt8) := [[117, 115, 101, 114], [99, 111, 117, 110, 116], [105, 116, 101, 109, 115], [114, 97, 110, 107], [99, 97, 116, 101, 103, 111, 114, 121]]
theorem askC_cells {W : World} {fuel : Nat} {cs : Array Value} {q : List MemPlace}
    (hd : DataW.trod (fun _ => ()) Tryz.prog W 0 (fun _ => true) false fuel 224 cs.toList = some (Rows.laid_bellman_chain_asked, q)) :
    ∀ i : Nat, i < 5 → cs[i]? = some (.string ⟨(askCL.getD i []).toArray⟩) := by
  obtain ⟨xs, m1, rfl, hx1, hlen, hn3, hel⟩ := DataW.trod_array Tryz.underlying224 hd
  simp only [Prod.mk.injEq, Rows.laid_bellman_chain_asked, DataW.agg.injEq] at hx1
  obtain ⟨hx1, _⟩ := hx1
  intro i hi
  have hi' := hel i hi
  have hxi : xs[i]? = some xs[i] := List.getElem?_eq_getElem (by omega)
  rw [hxi, cellsStrC, Nat.mul_one] at hi'
  obtain ⟨k, e1, e2, _⟩ := DataW.trod_string Tryz.underlying9 hi'
  have hm : (xs.map (·.1))[i]? = some (.lit (.string k.data.toList)) := by rw [List.getElem?_map, hxi, e2]; rfl
  rw [← hx1] at hm
  have hk : k.data.toList = askCL.getD i [] := by
    have : ∀ j : Nat, j < 5 → ([.lit (.string [117, 115, 101, 114]), .lit (.string [99, 111, 117, 110, 116]), .lit (.string [105, 116, 101, 109, 115]), .lit (.string [114, 97, 110, 107]), .lit (.string [99, 97, 116, 101, 103, 111, 114, 121])] : List (DataW Unit))[j]? = some (.lit (.string (askCL.getD j []))) := by
      intro j hj
      match j, hj with
      | 0, _ => rfl | 1, _ => rfl | 2, _ => rfl | 3, _ => rfl | 4, _ => rfl
    rw [this i hi] at hm
    simp only [Option.some.injEq, DataW.lit.injEq, Lit.string.injEq] at hm
    exact hm.symm
  have hk2 : k = ⟨(askCL.getD i []).toArray⟩ := by rw [← hk]
  subst hk2
  have hh := congrArg List.head? e1
  rw [List.head?_take, if_neg (by decide), List.head?_drop] at hh
  simpa using hh
theorem nam_of_laid {W : World} {r : List (String × DataW Unit)} (h : laidMet Tryz.prog (("bellman/esc.names", Rows.laid_bellman_esc_names) :: r) W) : GNam W := by
  obtain ⟨ps, ⟨g0, t0, cs0, f0, p0, q0, hg0, ht0, hv0, hd0, _, _⟩, _⟩ := h
  obtain rfl := Option.some.inj (gNamC.symm.trans hg0)
  obtain rfl := Option.some.inj (tNamC.symm.trans ht0)
  intro i hi
  rw [World.var?_cell hg0 hv0 i]
  exact ⟨_, namC_cells hd0 i hi⟩
theorem ask_of_laid {W : World} {r : List (String × DataW Unit)} (h : laidMet Tryz.prog (("bellman/chain.asked", Rows.laid_bellman_chain_asked) :: r) W) : GAsk W := by
  obtain ⟨ps, ⟨g0, t0, cs0, f0, p0, q0, hg0, ht0, hv0, hd0, _, _⟩, _⟩ := h
  obtain rfl := Option.some.inj (gAskC.symm.trans hg0)
  obtain rfl := Option.some.inj (tAskC.symm.trans ht0)
  have hc : ∀ i : Nat, i < 5 → W.cell? ⟨3, i, none⟩ = some (.string ⟨(askCL.getD i []).toArray⟩) := fun i hi => by
    rw [World.var?_cell hg0 hv0 i]
    exact askC_cells hd0 i hi
  refine ⟨⟨rfl, by decide, fun _ => ⟨_, rfl, fun j p hj => ?_⟩⟩, by decide⟩
  have hj5 : j < 5 := by have := (List.getElem?_eq_some_iff.1 hj).1; simpa [askedS] using this
  have hp : p = ⟨(askCL.getD j []).toArray⟩ := by
    match j, hj5, hj with
    | 0, _, hj => exact (Option.some.inj hj).symm
    | 1, _, hj => exact (Option.some.inj hj).symm
    | 2, _, hj => exact (Option.some.inj hj).symm
    | 3, _, hj => exact (Option.some.inj hj).symm
    | 4, _, hj => exact (Option.some.inj hj).symm
  subst hp
  refine ⟨[.string ⟨(askCL.getD j []).toArray⟩], rfl, rfl, fun i u hu => ?_⟩
  have hi : i = 0 := by have := (List.getElem?_eq_some_iff.1 hu).1; simpa using this
  subst hi
  obtain rfl := Option.some.inj hu
  have e : (⟨3, 0, none⟩ : Addr).add (j * Kd.sz Kd.string + 0) = ⟨3, j, none⟩ := by rw [Addr.add_lit]; show (⟨_, 0 + (j * 1 + 0), none⟩ : Addr) = _; simp
  rw [e]
  exact hc j hj5
theorem globC_of_laid {W : World} (hW : W.ShapedOpen Tryz.prog) (h : laidMetH Tryz.prog chainLaid W) : GlobC W := by
  have h' : laidMet Tryz.prog chainPlain W ∧ handlesMet Tryz.prog [("errors.errorType", Rows.laid_errors_errorType)] W := h
  obtain ⟨hp, hh⟩ := h'
  have t1 := laidMet.tail hp
  have t2 := laidMet.tail t1
  have t3 := laidMet.tail t2
  refine ⟨glob_of_sentinel hW t2, ?_, nam_of_laid t1, ask_of_laid t3⟩
  obtain ⟨name, u, ty, e1, e2, e3, e4, e5⟩ := hh _ (List.mem_singleton.2 rfl)
  have en : name = [101, 114, 114, 111, 114] := (Option.some.inj e1).symm
  subst en
  obtain rfl := Option.some.inj (rtNC.symm.trans e2)
  have hm : ty ∈ (List.range Tryz.prog.types.size).filter fun t => Tryz.prog.rowNamed t [101, 114, 114, 111, 114] := List.mem_filter.2 ⟨List.mem_range.2 e3, e4⟩
  rw [errRowC] at hm
  obtain rfl := List.mem_singleton.1 hm
  have hx : typeHandle Tryz.prog 80 = .pointer (some ⟨11, 80, none⟩) := by kernel_rfl
  rw [hx] at e5
  unfold GTyp
  simpa using World.var?_cell gTypC e5 0
noncomputable def chainW0 (os : Os) : World :=
  let w0 := World.holding Tryz.prog os ⟨#[], #[], []⟩
  { w0 with heap := w0.heap.modify 1 fun
      | .cells _ t frozen => .cells #[.iface 211 (.agg #[.pointer (some ⟨11, 80, none⟩)])] t frozen
      | o => o }
noncomputable def chainW (os : Os) : World := (chainW0 os).layVars Tryz.prog chainPlain
theorem chainW_os (os : Os) : (chainW os).os = os := (World.layVars_os _ _ _).trans rfl
theorem chainW_plain (os : Os) (args : Array Value) : laidMet Tryz.prog chainPlain ((chainW os).forCall (fun _ _ => 0) ⟨#[], args, []⟩).memory := by
  have e1 : (chainPlain.filter fun x => (chainPlain.map (·.1)).contains x.1) = chainPlain := List.filter_eq_self.2 fun x hx => List.contains_iff_mem.2 (List.mem_map.2 ⟨x, hx, rfl⟩)
  have e2 : (chainPlain.filter fun x => !(chainPlain.map (·.1)).contains x.1) = [] := List.filter_eq_nil_iff.2 fun x hx => by rw [List.contains_iff_mem.2 (List.mem_map.2 ⟨x, hx, rfl⟩)]; simp
  have h : laidMet Tryz.prog chainPlain (chainW os) := laidMet_layVars (w0 := chainW0 os) (chainPlain.map (·.1)) [] (by rw [e1]; rfl) (by rw [e1]; kernel_rfl) (by rw [e1]; kernel_rfl) (by rw [e2]; exact LaidIn.none)
  exact h.of_heap (by simp [World.memory, World.forCall, Input.heap])
theorem chainW_met (os : Os) (args : Array Value) : laidMetH Tryz.prog chainLaid ((chainW os).forCall (fun _ _ => 0) ⟨#[], args, []⟩).memory :=
  laidMetH_of_parts (chainW_plain os args) (by kernel_rfl)
end Go.Proofs.YthngelbaheankaaGreatDoor.Tpl
