/- Part 3 of the proof (texts of this claim, merged in build order; what the claim does not need has been left out). -/
import Derived.Test.YtniibpndgcndbaaGreatDoorRL2
import Derived.KernelRfl
import Derived.LaidHandle
import Derived.Lay
import Derived.Lib.LaidTab
import Derived.Test.YtniibpndgcndbaaGreatDoorRows
set_option linter.unusedVariables false
set_option linter.unusedSimpArgs false
namespace Go.Proofs.YtniibpndgcndbaaGreatDoor.Tpl
open Go.RowKit
def rendLaid : List (String × DataW Unit) := [("math/bits.deBruijn32tab", Rows.laid_math_bits_deBruijn32tab), ("math/bits.deBruijn64tab", Rows.laid_math_bits_deBruijn64tab), ("internal/strconv.uint64pow10", Rows.laid_internal_strconv_uint64pow10), ("unicode/utf8.acceptRanges", Rows.laid_unicode_utf8_acceptRanges), ("errors.errorType", Rows.laid_errors_errorType), ("bellman/tree.errPair", Rows.laid_bellman_tree_errPair), ("bellman/render.reasons", Rows.laid_bellman_render_reasons), ("unicode/utf8.first", Rows.laid_unicode_utf8_first)]
def rendPlain : List (String × DataW Unit) := [("math/bits.deBruijn32tab", Rows.laid_math_bits_deBruijn32tab), ("math/bits.deBruijn64tab", Rows.laid_math_bits_deBruijn64tab), ("internal/strconv.uint64pow10", Rows.laid_internal_strconv_uint64pow10), ("unicode/utf8.acceptRanges", Rows.laid_unicode_utf8_acceptRanges), ("bellman/tree.errPair", Rows.laid_bellman_tree_errPair), ("bellman/render.reasons", Rows.laid_bellman_render_reasons), ("unicode/utf8.first", Rows.laid_unicode_utf8_first)]
theorem gTyp0 : Tryz.prog.globalNamed "errors.errorType" = some 2 := by kernel_rfl
theorem rtN : (Tryz.prog.cutTypes.find? (·.1 == "internal/reflectlite.rtype")).map (·.2) = some 207 := by kernel_rfl
theorem errRow : ((List.range Tryz.prog.types.size).filter fun t => Tryz.prog.rowNamed t [101, 114, 114, 111, 114]) = [83] := by kernel_rfl
theorem gRea0 : Tryz.prog.globalNamed "bellman/render.reasons" = some 0 := by kernel_rfl
theorem tRea : (Tryz.prog.globals[0]?).map (·.type) = some 122 := by kernel_rfl
theorem tTab : (Tryz.prog.globals[4]?).map (·.type) = some 257 := by kernel_rfl
theorem globR_of_laid {W : World} (hW : W.ShapedOpen Tryz.prog) (h : laidMetH Tryz.prog rendLaid W) : GlobR W := by
  have h' : laidMet Tryz.prog rendPlain W ∧ handlesMet Tryz.prog [("errors.errorType", Rows.laid_errors_errorType)] W := h
  obtain ⟨hp, hh⟩ := h'
  have t2 := laidMet.tail (laidMet.tail hp)
  have t4 := laidMet.tail (laidMet.tail t2)
  have t5 := laidMet.tail t4
  refine ⟨glob_of_sentinel hW t4, ?_, ?_, ?_⟩
  · exact Lib.tabIs_of_head gTabN tTab (n := 20) (e := 158) Tryz.underlying257 Tryz.underlying158 (by kernel_rfl) (by kernel_rfl) t2
  · obtain ⟨name, u, ty, e1, e2, e3, e4, e5⟩ := hh _ (List.mem_singleton.2 rfl)
    have en : name = [101, 114, 114, 111, 114] := (Option.some.inj e1).symm
    subst en
    obtain rfl := Option.some.inj (rtN.symm.trans e2)
    have hm : ty ∈ (List.range Tryz.prog.types.size).filter fun t => Tryz.prog.rowNamed t [101, 114, 114, 111, 114] := List.mem_filter.2 ⟨List.mem_range.2 e3, e4⟩
    rw [errRow] at hm
    obtain rfl := List.mem_singleton.1 hm
    have hx : typeHandle Tryz.prog 83 = .pointer (some ⟨9, 83, none⟩) := by kernel_rfl
    rw [hx] at e5
    unfold GTyp
    simpa using World.var?_cell gTyp0 e5 0
  · have ht : Lib.TabIs Tryz.prog W "bellman/render.reasons" .i64 [3, 7, 12] := Lib.tabIs_of_head gRea0 tRea (n := 3) (e := 24) Tryz.underlying122 Tryz.underlying24 (by kernel_rfl) (by kernel_rfl) t5
    exact ⟨ht.cell gRea0 0 (by decide), ht.cell gRea0 1 (by decide), ht.cell gRea0 2 (by decide)⟩
noncomputable def rendW0 (os : Os) : World :=
  let w0 := World.holding Tryz.prog os ⟨#[], #[], []⟩
  { w0 with heap := w0.heap.modify 2 fun
      | .cells _ t frozen => .cells #[.iface 207 (.agg #[.pointer (some ⟨9, 83, none⟩)])] t frozen
      | o => o }
noncomputable def rendW (os : Os) : World := (rendW0 os).layVars Tryz.prog rendPlain
theorem rendW_os (os : Os) : (rendW os).os = os := (World.layVars_os _ _ _).trans rfl
theorem rendW_plain (os : Os) (args : Array Value) : laidMet Tryz.prog rendPlain ((rendW os).forCall (fun _ _ => 0) ⟨#[], args, []⟩).memory := by
  have e1 : (rendPlain.filter fun x => (rendPlain.map (·.1)).contains x.1) = rendPlain := List.filter_eq_self.2 fun x hx => List.contains_iff_mem.2 (List.mem_map.2 ⟨x, hx, rfl⟩)
  have e2 : (rendPlain.filter fun x => !(rendPlain.map (·.1)).contains x.1) = [] := List.filter_eq_nil_iff.2 fun x hx => by rw [List.contains_iff_mem.2 (List.mem_map.2 ⟨x, hx, rfl⟩)]; simp
  have h : laidMet Tryz.prog rendPlain (rendW os) := laidMet_layVars (w0 := rendW0 os) (rendPlain.map (·.1)) [] (by rw [e1]; rfl) (by rw [e1]; kernel_rfl) (by rw [e1]; kernel_rfl) (by rw [e2]; exact LaidIn.none)
  exact h.of_heap (by simp [World.memory, World.forCall, Input.heap])
theorem rendW_met (os : Os) (args : Array Value) : laidMetH Tryz.prog rendLaid ((rendW os).forCall (fun _ _ => 0) ⟨#[], args, []⟩).memory :=
  laidMetH_of_parts (rendW_plain os args) (by kernel_rfl)
end Go.Proofs.YtniibpndgcndbaaGreatDoor.Tpl
