/- Part 3 of the proof (texts of this claim, merged in build order; what the claim does not need has been left out). -/
import Derived.Test.YthngelbaheankaaGreatDoorCF2
import Derived.Deep.Slices
import Derived.KernelRfl
import Derived.LaidHandle
import Derived.LaidMore
import Derived.Lay
import Derived.Lib.LaidTab
import Derived.OpenShut
import Derived.Shelf.Vars
import Derived.SliceStrings
import Derived.Stop.LaidErr
import Derived.Test.YthngelbaheankaaGreatDoorRows
set_option linter.unusedVariables false
set_option linter.unusedSimpArgs false
namespace Go.Proofs.YthngelbaheankaaGreatDoor.Tpl
open Go.RowKit Go.Proofs Go.Proofs.YthngelbaheankaaGreatDoor.PB Go.Proofs.YthngelbaheankaaGreatDoor.Short Go.Proofs.YthngelbaheankaaGreatDoorW.PrintWords Go.Proofs.YthngelbaheankaaGreatDoorW.PrintLast Go.Proofs.YthngelbaheankaaGreatDoorW.PrintMore
abbrev oLv : Obj := .cells #[.int .u8 1, .int .i64 300, .int .i64 1, .int .i64 1, .int .u8 2, .int .i64 0, .int .i64 3, .int .i64 10] 41 (0, 0)
theorem rdL_of {W : World} {s : Nat} (h : W.heap[s]? = some oLv) : RdL W (some ⟨s, 0, none⟩) 2 chN := by
  refine ⟨⟨rfl, by decide, fun _ => ⟨_, rfl, fun j p hj => ?_⟩⟩, by decide⟩
  have hc : ∀ q u, (#[.int .u8 1, .int .i64 300, .int .i64 1, .int .i64 1, .int .u8 2, .int .i64 0, .int .i64 3, .int .i64 10] : Array Value)[q]? = some u → W.cell? ((⟨s, 0, none⟩ : Addr).add q) = some u := by
    intro q u hu
    rw [Addr.add_lit, Nat.zero_add]
    simp only [World.cell?, h]
    exact hu
  match j, hj with
  | 0, hj =>
    obtain rfl : (⟨1, 300, 1, 1⟩ : Lev).of = p := by simpa [chN] using hj
    exact ⟨_, rfl, k41_mk W (⟨1, 300, 1, 1⟩ : Lev).of, fun i u hu => hc _ u (by
      match i, hu with
      | 0, hu => exact hu
      | 1, hu => exact hu
      | 2, hu => exact hu
      | 3, hu => exact hu)⟩
  | 1, hj =>
    obtain rfl : (⟨2, 0, 3, 10⟩ : Lev).of = p := by simpa [chN] using hj
    exact ⟨_, rfl, k41_mk W (⟨2, 0, 3, 10⟩ : Lev).of, fun i u hu => hc _ u (by
      match i, hu with
      | 0, hu => exact hu
      | 1, hu => exact hu
      | 2, hu => exact hu
      | 3, hu => exact hu)⟩
abbrev aC (s : Nat) : Value := .agg #[.string ⟨#[110, 101, 119, 115]⟩, .bool false, .int .i64 0, .int .i64 0, .slice (some ⟨s, 0, none⟩) 2 2, .string ⟨#[123, 123, 117, 115, 101, 114, 125, 125, 58, 32, 123, 123, 99, 111, 117, 110, 116, 125, 125]⟩]
abbrev aE (s : Nat) : Value := .agg #[.string ⟨#[110, 101, 119, 115]⟩, .bool false, .int .i64 0, .int .i64 0, .slice (some ⟨s, 0, none⟩) 2 2, .string ⟨#[123, 123, 110, 97, 109, 101, 125, 125]⟩]
abbrev aF (s : Nat) : Value := .agg #[.string ⟨#[110, 101, 119, 115]⟩, .bool false, .int .i64 60, .int .i64 0, .slice (some ⟨s, 0, none⟩) 2 2, .string ⟨#[123, 123, 117, 115, 101, 114, 125, 125, 58, 32, 123, 123, 99, 111, 117, 110, 116, 125, 125]⟩]
abbrev oE (s : Nat) : Obj := .cells #[.string ⟨#[110, 101, 119, 115]⟩, .bool false, .int .i64 0, .int .i64 0, .slice (some ⟨s, 0, none⟩) 2 2, .string ⟨#[123, 123, 110, 97, 109, 101, 125, 125]⟩] 37 (0, 0)
abbrev oF (s : Nat) : Obj := .cells #[.string ⟨#[110, 101, 119, 115]⟩, .bool false, .int .i64 60, .int .i64 0, .slice (some ⟨s, 0, none⟩) 2 2, .string ⟨#[123, 123, 117, 115, 101, 114, 125, 125, 58, 32, 123, 123, 99, 111, 117, 110, 116, 125, 125]⟩] 37 (0, 0)
abbrev oC (s : Nat) : Obj := .cells #[.string ⟨#[110, 101, 119, 115]⟩, .bool false, .int .i64 0, .int .i64 0, .slice (some ⟨s, 0, none⟩) 2 2, .string ⟨#[123, 123, 117, 115, 101, 114, 125, 125, 58, 32, 123, 123, 99, 111, 117, 110, 116, 125, 125]⟩] 37 (0, 0)
structure LvC (w : World) (s : Nat) (W : World) : Prop where
  bel : Below w.heap.size w W
  bL : W.heap[s]? = some oLv
  bC : W.heap[s + 1]? = some (oC s)
theorem LvC.below {w : World} {s : Nat} {W W1 : World} (h : LvC w s W) (hb : Below W.heap.size W W1) : LvC w s W1 := ⟨below_step h.bel hb, blk_below h.bL hb, blk_below h.bC hb⟩
theorem LvC.rd {w : World} {s : Nat} {W : World} (h : LvC w s W) : RdL W (some ⟨s, 0, none⟩) 2 catN.ch := rdL_of h.bL
theorem lit1_at {V : World} {n : Nat} {s : S} (h : V.heap[n]? = some (.cells #[.string (bs s)] 9 (0, 0))) : RdS V (some ⟨n, 0, none⟩) 1 [s] := by
  refine ⟨⟨rfl, by simp, fun _ => ⟨_, rfl, fun j x hj => ?_⟩⟩, Nat.le_refl _⟩
  cases j with
  | succ j => simp at hj
  | zero =>
    simp at hj
    subst hj
    refine ⟨[.string (bs s)], rfl, rfl, fun i u hu => ?_⟩
    have hi : i = 0 := by have := (List.getElem?_eq_some_iff.1 hu).1; simp at this; omega
    subst hi
    simp at hu
    subst hu
    have e : (⟨n, 0, none⟩ : Addr).add (0 * Kd.sz Kd.string + 0) = ⟨n, 0, none⟩ := rfl
    rw [e]
    exact (blk_cell h 0).trans rfl
set_option maxHeartbeats 4000000 in
set_option maxRecDepth 100000 in
theorem lives18_any (w : World) (hG : GlobC w) : Calls Tryz.prog 19 #[] w fun e w' => e = .returned (.bool true) ∧ Below w.heap.size w w' := by
  have HG := Aside0.mk hG
  clear hG
  go_enter Tryz.func19, Tryz.ntmps19
  go_upto_region 2 with (fail)
  have hI : LvC w w.heap.size ((w.alloc oLv).alloc (oC w.heap.size)) := ⟨below_alloc (below_alloc (Below.refl _ _) _) _, blk_alloc (blk_new w _) _, by have := blk_new (w.alloc oLv) (oC w.heap.size); rw [World.size_alloc] at this; exact this⟩
  obtain ⟨s, hs⟩ : ∃ s, w.heap.size = s := ⟨_, rfl⟩
  rw [hs] at hI ⊢
  generalize (w.alloc oLv).alloc (oC s) = W at hI ⊢
  have HI := Aside0.mk hI
  obtain ⟨y0, y1, y2, y3, y4, y5, -⟩ := cells_6 hI.bC
  clear hI
  have h1 : Calls Tryz.prog 15 #[aC s] W fun e w' => e = .returned (.tuple #[.int .i64 320, .int .i64 0]) ∧ Below W.heap.size W w' := by
    have h := clong_any catN (some ⟨s, 0, none⟩) 2 W (HG.out.below HI.out.bel) smN_ HI.out.rd
    rw [longN_.1, longN_.2] at h
    exact h
  go_wp2_with fail
  refine h1.mono ?_
  rintro e W1 ⟨rfl, hb⟩
  have HI1 := Aside0.mk (HI.out.below hb)
  clear HI hb h1 y0 y1 y2 y3 y4 y5
  obtain ⟨y0, y1, y2, y3, y4, y5, -⟩ := cells_6 HI1.out.bC
  have h1 : Calls Tryz.prog 17 #[aC s, .int .i64 1] W1 fun e w' => e = .returned (.tuple #[.agg #[.int .u8 2, .int .i64 0, .int .i64 3, .int .i64 10], .int .i64 0]) ∧ Below W1.heap.size W1 w' := by
    have h := clevel_any catN (some ⟨s, 0, none⟩) 2 1 W1 (HG.out.below HI1.out.bel) smN_ HI1.out.rd
    rw [lev1_] at h
    exact h
  go_wp2_with fail
  refine h1.mono ?_
  rintro e W2 ⟨rfl, hb⟩
  have HI2 := Aside0.mk ((HI1.out.below hb).below (below_alloc (Below.refl _ _) (.cells #[.int .u8 2, .int .i64 0, .int .i64 3, .int .i64 10] 41)))
  have BL := blk_new W2 (.cells #[.int .u8 2, .int .i64 0, .int .i64 3, .int .i64 10] 41)
  clear HI1 hb h1 y0 y1 y2 y3 y4 y5
  go_upto_region 4 with (fail)
  generalize W2.alloc (.cells #[.int .u8 2, .int .i64 0, .int .i64 3, .int .i64 10] 41) = W3 at HI2 BL ⊢
  generalize W2.heap.size = bl at BL ⊢
  have HL := Aside0.mk BL
  obtain ⟨y0, y1, y2, y3, y4, y5, -⟩ := cells_6 HI2.out.bC
  clear BL
  have h1 : Calls Tryz.prog 17 #[aC s, .int .i64 2] W3 fun e w' => e = .returned (.tuple #[.agg #[.int .u8 0, .int .i64 0, .int .i64 0, .int .i64 0], .int .i64 3]) ∧ Below W3.heap.size W3 w' := by
    have h := clevel_any catN (some ⟨s, 0, none⟩) 2 2 W3 (HG.out.below HI2.out.bel) smN_ HI2.out.rd
    rw [lev2_] at h
    exact h
  go_wp2_with fail
  refine h1.mono ?_
  rintro e W4 ⟨rfl, hb⟩
  have HB := Aside0.mk (below_alloc hb (.cells #[.int .u8 0, .int .i64 0, .int .i64 0, .int .i64 0] 41))
  have HI3 := Aside0.mk (HI2.out.below HB.out)
  have HL3 := Aside0.mk (blk_below HL.out HB.out)
  clear HI2 hb h1 HB HL y0 y1 y2 y3 y4 y5
  go_upto_region 5 with (fail)
  generalize W4.alloc (.cells #[.int .u8 0, .int .i64 0, .int .i64 0, .int .i64 0] 41) = W5 at HI3 HL3 ⊢
  obtain ⟨y0, y1, y2, y3, y4, y5, -⟩ := cells_6 HI3.out.bC
  have h1 : Calls Tryz.prog 25 #[.slice none 0 0, aC s] W5 fun e w' => (∃ A c, e = .returned (.tuple #[.slice A 1 c, .int .i64 0]) ∧ RdC w' A c [catN]) ∧ Below W5.heap.size W5 w' := by
    have h := cput_any [] none 0 catN (some ⟨s, 0, none⟩) 2 W5 (HG.out.below HI3.out.bel) smL0_ (RdC.nil _) smN_ HI3.out.rd
    rw [putN_] at h
    exact h
  go_wp2_with fail
  refine h1.mono ?_
  rintro e W6 ⟨⟨Am, cm, rfl, hM⟩, hb⟩
  have HI6 := Aside0.mk (HI3.out.below hb)
  have HL6 := Aside0.mk (blk_below HL3.out hb)
  have HM6 := Aside0.mk hM
  clear HI3 HL3 hb h1 hM y0 y1 y2 y3 y4 y5
  have h1 : Calls Tryz.prog 23 #[.slice Am 1 cm, .string ⟨#[110, 101, 119, 115]⟩] W6 fun e w' => (∃ A c, e = .returned (.tuple #[.agg #[.string ⟨#[110, 101, 119, 115]⟩, .bool false, .int .i64 0, .int .i64 0, .slice A 2 c, .string ⟨#[123, 123, 117, 115, 101, 114, 125, 125, 58, 32, 123, 123, 99, 111, 117, 110, 116, 125, 125]⟩], .int .i64 0]) ∧ RdL w' A c chN) ∧ Below W6.heap.size W6 w' := by
    have h := cfind_any [catN] Am cm newsS W6 (HG.out.below HI6.out.bel) smLN_ HM6.out
    rw [findN_] at h
    exact h
  go_wp2_with fail
  refine h1.mono ?_
  rintro e W7 ⟨⟨Ad, cd, rfl, hD⟩, hb⟩
  have hb2 := below_alloc hb (.cells #[.string ⟨#[110, 101, 119, 115]⟩, .bool false, .int .i64 0, .int .i64 0, .slice Ad 2 cd, .string ⟨#[123, 123, 117, 115, 101, 114, 125, 125, 58, 32, 123, 123, 99, 111, 117, 110, 116, 125, 125]⟩] 37)
  have BD := blk_new W7 (.cells #[.string ⟨#[110, 101, 119, 115]⟩, .bool false, .int .i64 0, .int .i64 0, .slice Ad 2 cd, .string ⟨#[123, 123, 117, 115, 101, 114, 125, 125, 58, 32, 123, 123, 99, 111, 117, 110, 116, 125, 125]⟩] 37)
  have HI8 := Aside0.mk (HI6.out.below hb2)
  have HL8 := Aside0.mk (blk_below HL6.out hb2)
  have HM8 := Aside0.mk (HM6.out.below hb2)
  have HD8 := Aside0.mk (hD.below (below_alloc (Below.refl _ _) (.cells #[.string ⟨#[110, 101, 119, 115]⟩, .bool false, .int .i64 0, .int .i64 0, .slice Ad 2 cd, .string ⟨#[123, 123, 117, 115, 101, 114, 125, 125, 58, 32, 123, 123, 99, 111, 117, 110, 116, 125, 125]⟩] 37)))
  clear HI6 HL6 HM6 hb hb2 h1 hD
  go_upto_region 7 with (fail)
  generalize W7.alloc (.cells #[.string ⟨#[110, 101, 119, 115]⟩, .bool false, .int .i64 0, .int .i64 0, .slice Ad 2 cd, .string ⟨#[123, 123, 117, 115, 101, 114, 125, 125, 58, 32, 123, 123, 99, 111, 117, 110, 116, 125, 125]⟩] 37) = W8 at BD HI8 HL8 HM8 HD8 ⊢
  generalize W7.heap.size = bd at BD ⊢
  have HBD := Aside0.mk BD
  clear BD
  have h1 : Calls Tryz.prog 27 #[.slice Am 1 cm] W8 fun e w' => (∃ An cn, e = .returned (.tuple #[.slice An 1 cn, .int .i64 0]) ∧ RdS w' An cn [newsS]) ∧ Below W8.heap.size W8 w' := by
    have h := cnames_any [catN] Am cm W8 (HG.out.below HI8.out.bel) smLN_ HM8.out
    simp only [whyA, allN_, if_true] at h
    exact h
  go_wp2_with fail
  refine h1.mono ?_
  rintro e W9 ⟨⟨An, cn, rfl, hN⟩, hb⟩
  have HI9 := Aside0.mk (HI8.out.below hb)
  have HL9 := Aside0.mk (blk_below HL8.out hb)
  have HM9 := Aside0.mk (HM8.out.below hb)
  have HD9 := Aside0.mk (HD8.out.below hb)
  have HBD9 := Aside0.mk (blk_below HBD.out hb)
  have HN9 := Aside0.mk hN
  clear HI8 HL8 HM8 HD8 HBD hb h1 hN
  have h1 : Calls Tryz.prog 23 #[.slice Am 1 cm, .string ⟨#[111, 108, 100]⟩] W9 fun e w' => (∃ A c, e = .returned (.tuple #[.agg #[.string ⟨#[]⟩, .bool false, .int .i64 0, .int .i64 0, .slice A 0 c, .string ⟨#[]⟩], .int .i64 3])) ∧ Below W9.heap.size W9 w' := by
    have h := cfind_any [catN] Am cm oldS W9 (HG.out.below HI9.out.bel) smLN_ HM9.out
    rw [findO_] at h
    exact h.mono fun e w' ⟨⟨A, c, he, _⟩, hb⟩ => ⟨⟨A, c, he⟩, hb⟩
  go_wp2_with fail
  refine h1.mono ?_
  rintro e WA ⟨⟨Az, cz, rfl⟩, hb⟩
  have hb2 := below_alloc hb (.cells #[.string ⟨#[]⟩, .bool false, .int .i64 0, .int .i64 0, .slice Az 0 cz, .string ⟨#[]⟩] 37)
  have HI10 := Aside0.mk (HI9.out.below hb2)
  have HL10 := Aside0.mk (blk_below HL9.out hb2)
  have HM10 := Aside0.mk (HM9.out.below hb2)
  have HD10 := Aside0.mk (HD9.out.below hb2)
  have HBD10 := Aside0.mk (blk_below HBD9.out hb2)
  have HN10 := Aside0.mk (RdS.below HN9.out hb2)
  clear HI9 HL9 HM9 HD9 HBD9 HN9 hb hb2 h1
  go_upto_region 9 with (fail)
  generalize WA.alloc (.cells #[.string ⟨#[]⟩, .bool false, .int .i64 0, .int .i64 0, .slice Az 0 cz, .string ⟨#[]⟩] 37) = WB at HI10 HL10 HM10 HD10 HBD10 HN10 ⊢
  obtain ⟨y0, y1, y2, y3, y4, y5, -⟩ := cells_6 HI10.out.bC
  go_upto_region 10 with (fail)
  have hbC := below_alloc (Below.refl WB.heap.size WB) (oC s)
  have BE := blk_new WB (oC s)
  have hI11 := HI10.out.below hbC
  have HBC := Aside0.mk hbC
  clear hbC y0 y1 y2 y3 y4 y5
  obtain ⟨be, hbe⟩ : ∃ b, WB.heap.size = b := ⟨_, rfl⟩
  have Hbe := Aside0.mk hbe
  generalize WB.alloc (oC s) = WC at BE hI11 HBC ⊢
  rw [hbe] at BE ⊢
  clear hbe
  obtain ⟨u0, u1, u2, u3, u4, u5, v0, v1, v2, v3, v4, v5⟩ := cells_6 BE
  go_upto_region 11 with (fail)
  have BE2 : (WC.setCell ⟨be, 5, none⟩ (.string ⟨#[123, 123, 110, 97, 109, 101, 125, 125]⟩)).heap[be]? = some (oE s) := blk_put BE 5 (.string ⟨#[123, 123, 110, 97, 109, 101, 125, 125]⟩) rfl
  have hbD : Below WB.heap.size WB (WC.setCell ⟨be, 5, none⟩ (.string ⟨#[123, 123, 110, 97, 109, 101, 125, 125]⟩)) := below_set HBC.out (Nat.le_of_eq Hbe.out)
  clear u0 u1 u2 u3 u4 u5 v0 v1 v2 v3 v4 v5 BE hI11 HBC
  generalize WC.setCell ⟨be, 5, none⟩ (.string ⟨#[123, 123, 110, 97, 109, 101, 125, 125]⟩) = WD at BE2 hbD ⊢
  have HI12 := Aside0.mk (HI10.out.below hbD)
  obtain ⟨y0, y1, y2, y3, y4, y5, -⟩ := cells_6 HI12.out.bC
  go_upto_region 12 with (fail)
  have hbE := below_alloc hbD (oC s)
  have BF := blk_new WD (oC s)
  have BE3 := blk_alloc BE2 (oC s)
  have hle := hbD.size
  have hlt := blk_lt BE2
  clear y0 y1 y2 y3 y4 y5 BE2 hbD
  obtain ⟨bf, hbf⟩ : ∃ b, WD.heap.size = b := ⟨_, rfl⟩
  rw [hbf] at BF hle hlt ⊢
  generalize WD.alloc (oC s) = WE at BF BE3 hbE ⊢
  obtain ⟨u0, u1, u2, u3, u4, u5, v0, v1, v2, v3, v4, v5⟩ := cells_6 BF
  go_upto_region 13 with (fail)
  have hef : be ≠ bf := Nat.ne_of_lt hlt
  have BE4 : (WE.setCell ⟨bf, 2, none⟩ (.int .i64 60)).heap[be]? = some (oE s) := by rw [Below.heap_setCell _ _ _ _ hef]; exact BE3
  have BF2 : (WE.setCell ⟨bf, 2, none⟩ (.int .i64 60)).heap[bf]? = some (oF s) := blk_put BF 2 (.int .i64 60) rfl
  have hbF : Below WB.heap.size WB (WE.setCell ⟨bf, 2, none⟩ (.int .i64 60)) := below_set hbE hle
  clear u0 u1 u2 u3 u4 u5 v0 v1 v2 v3 v4 v5 BF BE3 hbE HI12 hbf hle hlt hef Hbe
  generalize WE.setCell ⟨bf, 2, none⟩ (.int .i64 60) = WF at BE4 BF2 hbF ⊢
  have HI13 := Aside0.mk (HI10.out.below hbF)
  have HL13 := Aside0.mk (blk_below HL10.out hbF)
  have HM13 := Aside0.mk (HM10.out.below hbF)
  have HD13 := Aside0.mk (HD10.out.below hbF)
  have HBD13 := Aside0.mk (blk_below HBD10.out hbF)
  have HN13 := Aside0.mk (RdS.below HN10.out hbF)
  have HE13 := Aside0.mk BE4
  have HF13 := Aside0.mk BF2
  clear HI10 HL10 HM10 HD10 HBD10 HN10 BE4 BF2 hbF
  obtain ⟨y0, y1, y2, y3, y4, y5, -⟩ := cells_6 HI13.out.bC
  obtain ⟨d0, d1, d2, d3, d4, d5, -⟩ := cells_6 HBD13.out
  obtain ⟨l0, l1, l2, l3, -⟩ := cells_4 HL13.out
  have h1 : Calls Tryz.prog 29 #[.agg #[.string ⟨#[110, 101, 119, 115]⟩, .bool false, .int .i64 0, .int .i64 0, .slice Ad 2 cd, .string ⟨#[123, 123, 117, 115, 101, 114, 125, 125, 58, 32, 123, 123, 99, 111, 117, 110, 116, 125, 125]⟩], aC s] WF fun e w' => e = .returned (.bool true) ∧ Below WF.heap.size WF w' := by
    have h := rsame_any catN catN Ad cd (some ⟨s, 0, none⟩) 2 WF (by decide) HD13.out HI13.out.rd
    exact h.mono fun e w' ⟨⟨r, he, hr⟩, hb⟩ => ⟨by rw [he, hr.2 rfl], hb⟩
  go_wp2_with fail
  refine h1.mono ?_
  rintro e WG ⟨rfl, hb⟩
  have hbl := below_alloc hb (.cells #[.string ⟨#[110, 101, 119, 115]⟩] 9)
  have BT := blk_new WG (.cells #[.string ⟨#[110, 101, 119, 115]⟩] 9)
  have HI14 := Aside0.mk (HI13.out.below hbl)
  have HM14 := Aside0.mk (HM13.out.below hbl)
  have HN14 := Aside0.mk (RdS.below HN13.out hbl)
  have HE14 := Aside0.mk (blk_below HE13.out hbl)
  have HF14 := Aside0.mk (blk_below HF13.out hbl)
  clear HI13 HM13 HN13 HE13 HF13 HL13 HD13 HBD13 hb hbl h1 y0 y1 y2 y3 y4 y5 d0 d1 d2 d3 d4 d5 l0 l1 l2 l3
  have h1 : Calls Tryz.prog 31 #[.slice An 1 cn, .slice (some ⟨WG.heap.size, 0, none⟩) 1 1] (WG.alloc (.cells #[.string ⟨#[110, 101, 119, 115]⟩] 9)) fun e w' => e = .returned (.bool true) ∧ Below (WG.alloc (.cells #[.string ⟨#[110, 101, 119, 115]⟩] 9)).heap.size (WG.alloc (.cells #[.string ⟨#[110, 101, 119, 115]⟩] 9)) w' := by
    have h := same_any An cn [newsS] (some ⟨WG.heap.size, 0, none⟩) 1 [newsS] (WG.alloc (.cells #[.string ⟨#[110, 101, 119, 115]⟩] 9)) HN14.out (lit1_at BT) (by decide)
    rw [decide_eq_true rfl] at h
    exact h
  go_wp2_with fail
  refine h1.mono ?_
  rintro e WH ⟨rfl, hb⟩
  have HI15 := Aside0.mk (HI14.out.below hb)
  have HM15 := Aside0.mk (HM14.out.below hb)
  have HE15 := Aside0.mk (blk_below HE14.out hb)
  have HF15 := Aside0.mk (blk_below HF14.out hb)
  clear HI14 HM14 HE14 HF14 HN14 BT hb h1
  obtain ⟨y0, y1, y2, y3, y4, y5, -⟩ := cells_6 HI15.out.bC
  have h1 : Calls Tryz.prog 20 #[aC s] WH fun e w' => e = .returned (.int .i64 0) ∧ Below WH.heap.size WH w' := by
    have h := ccheck_any catN (some ⟨s, 0, none⟩) 2 WH (HG.out.below HI15.out.bel) smN_ HI15.out.rd
    rw [okN_] at h
    exact h
  go_wp2_with fail
  refine h1.mono ?_
  rintro e WI ⟨rfl, hb⟩
  have HI16 := Aside0.mk (HI15.out.below hb)
  have HM16 := Aside0.mk (HM15.out.below hb)
  have HE16 := Aside0.mk (blk_below HE15.out hb)
  have HF16 := Aside0.mk (blk_below HF15.out hb)
  clear HI15 HM15 HE15 HF15 hb h1 y0 y1 y2 y3 y4 y5
  obtain ⟨y0, y1, y2, y3, y4, y5, -⟩ := cells_6 HE16.out
  have h1 : Calls Tryz.prog 20 #[aE s] WI fun e w' => e = .returned (.int .i64 2) ∧ Below WI.heap.size WI w' := by
    have h := ccheck_any catE (some ⟨s, 0, none⟩) 2 WI (HG.out.below HI16.out.bel) smE_ HI16.out.rd
    rw [okE_] at h
    exact h
  go_wp2_with fail
  refine h1.mono ?_
  rintro e WJ ⟨rfl, hb⟩
  have HI17 := Aside0.mk (HI16.out.below hb)
  have HM17 := Aside0.mk (HM16.out.below hb)
  have HF17 := Aside0.mk (blk_below HF16.out hb)
  clear HI16 HM16 HE16 HF16 hb h1 y0 y1 y2 y3 y4 y5
  obtain ⟨y0, y1, y2, y3, y4, y5, -⟩ := cells_6 HF17.out
  have h1 : Calls Tryz.prog 20 #[aF s] WJ fun e w' => e = .returned (.int .i64 2) ∧ Below WJ.heap.size WJ w' := by
    have h := ccheck_any catF (some ⟨s, 0, none⟩) 2 WJ (HG.out.below HI17.out.bel) smF_ HI17.out.rd
    rw [okF_] at h
    exact h
  go_wp2_with fail
  refine h1.mono ?_
  rintro e WK ⟨rfl, hb⟩
  have HI18 := Aside0.mk (HI17.out.below hb)
  have HM18 := Aside0.mk (HM17.out.below hb)
  clear HI17 HM17 HF17 hb h1 y0 y1 y2 y3 y4 y5
  have h1 : Calls Tryz.prog 32 #[.slice Am 1 cm] WK fun e w' => e = .returned (.int .i64 0) ∧ Below WK.heap.size WK w' := by
    have h := call_any [catN] Am cm WK (HG.out.below HI18.out.bel) smLN_ HM18.out
    simp only [whyA, allN_, if_true] at h
    exact h
  go_wp2_with fail
  refine h1.mono ?_
  rintro e WL ⟨rfl, hb⟩
  have HI19 := Aside0.mk (HI18.out.below hb)
  clear HI18 HM18 hb h1
  go_wp2
  go_ret
  exact ⟨rfl, HI19.out.bel⟩
end Go.Proofs.YthngelbaheankaaGreatDoor.Tpl
namespace Go.Proofs.YthngelbaheankaaGreatDoor.Tpl
open Go.RowKit Go.Proofs Go.Proofs.YthngelbaheankaaGreatDoor.PB Go.Proofs.YthngelbaheankaaGreatDoor.Short Go.Proofs.YthngelbaheankaaGreatDoorW.PrintWords Go.Proofs.YthngelbaheankaaGreatDoorW.PrintLast Go.Proofs.YthngelbaheankaaGreatDoorW.PrintMore
noncomputable def oneB {α : Type} (x y : α) : Bool := @decide (x = y) (Classical.propDecidable _)
theorem oneB_iff {α : Type} {x y : α} : oneB x y = true ↔ x = y := by unfold oneB; exact @decide_eq_true_iff (x = y) (Classical.propDecidable _)
theorem same18_ev (x y : Cat) (hx : x.ch.length ≤ 1048576) : Ev (fun k => bellmanref18_Same.f k (bs x.n) x.cr x.w x.b (x.ch.map Lev.of) (bs x.s) (bs y.n) y.cr y.w y.b (y.ch.map Lev.of) (bs y.s)) (oneB x y) := by
  obtain ⟨k, r, h1, h2⟩ := same18_f x y hx
  have hr : r = oneB x y := by rw [Bool.eq_iff_iff, h2, oneB_iff]
  rw [hr] at h1
  exact Ev.of (bellmanref18_Same.mono _ _ _ _ _ _ _ _ _ _ _ _) h1
theorem sameA_l0 (l m : List Cat) (hs : ∀ x ∈ l, x.sm) (hl : l.length = m.length) (hb : l.length ≤ 1048576) :
    ∀ d i, l.length - i = d → i ≤ l.length → Ev (fun k => bellmanref18_SameAll.l0 k (l.map Cat.of) (m.map Cat.of) (l.length : Int) (i : Int)) (oneB (l.drop i) (m.drop i)) := by
  intro d
  induction d with
  | zero =>
    intro i h1 h2
    refine Ev.step (fun k => by rw [bellmanref18_SameAll.l0]) ?_
    refine Ev.im (by omega) (Ev.val ?_)
    rw [List.drop_eq_nil_of_le (by omega), List.drop_eq_nil_of_le (by omega)]
    exact (oneB_iff.2 rfl).symm
  | succ d ih =>
    intro i h1 h2
    have hi : i < l.length := by omega
    have him : i < m.length := by omega
    have ea : rd_T37 (l.map Cat.of) (i : Int) = l[i].of := by unfold rd_T37; rw [Int.toNat_natCast, List.getD_eq_getElem?_getD, List.getElem?_map, List.getElem?_eq_getElem hi]; rfl
    have eb : rd_T37 (m.map Cat.of) (i : Int) = m[i].of := by unfold rd_T37; rw [Int.toNat_natCast, List.getD_eq_getElem?_getD, List.getElem?_map, List.getElem?_eq_getElem him]; rfl
    have hsx := hs _ (List.getElem_mem hi)
    have e := ih (i + 1) (by omega) (by omega)
    refine Ev.step (fun k => by rw [bellmanref18_SameAll.l0, ea, eb, wrap_one i (by omega)]) ?_
    refine Ev.ip (by omega) (Ev.ip (by omega) (Ev.ip (by rw [List.length_map]; omega) (Ev.ip (by rw [List.length_map]; omega) ?_)))
    refine Ev.bind (same18_ev l[i] m[i] hsx.2.1) ?_
    rw [List.drop_eq_getElem_cons hi, List.drop_eq_getElem_cons him]
    by_cases hx : l[i] = m[i]
    · refine Ev.ip (oneB_iff.2 hx) (Ev.eq e ?_)
      rw [Bool.eq_iff_iff, oneB_iff, oneB_iff, List.cons.injEq]
      simp [hx]
    · refine Ev.im (fun h => hx (oneB_iff.1 h)) (Ev.val ?_)
      rw [Bool.eq_iff_iff, oneB_iff, List.cons.injEq]
      simp [hx]
theorem rsameAll_any (l m : List Cat) (A : Option Addr) (c : Nat) (B : Option Addr) (d : Nat) (w : World) (hs : smC l) (hx : RdC w A c l) (hy : RdC w B d m) :
    Calls Tryz.prog 30 #[.slice A l.length c, .slice B m.length d] w fun e w' => e = .returned (.bool (oneB l m)) ∧ Below w.heap.size w w' := by
  have hev : Ev (fun k => bellmanref18_SameAll.f k (l.map Cat.of) (m.map Cat.of)) (oneB l m) := by
    unfold bellmanref18_SameAll.f
    rw [List.length_map, List.length_map]
    by_cases h : l.length = m.length
    · refine Ev.ip (by omega) ?_
      have := sameA_l0 l m hs.2 h hs.1 l.length 0 (by omega) (Nat.zero_le _)
      rw [List.drop_zero, List.drop_zero] at this
      exact this
    · refine Ev.im (by omega) (Ev.val ?_)
      rw [Bool.eq_iff_iff, oneB_iff]
      exact ⟨fun h => (by cases h), fun e => absurd (by rw [e]) h⟩
  obtain ⟨k, hk⟩ := hev.rounds
  have h := bellmanref18_SameAll.calls k A c (l.map Cat.of) B d (m.map Cat.of) _ w (by rw [List.length_map]; exact hx.1) (by rw [List.length_map]; exact hx.2) (by rw [List.length_map]; exact hy.1) (by rw [List.length_map]; exact hy.2) hk
  rw [List.length_map, List.length_map] at h
  exact h
end Go.Proofs.YthngelbaheankaaGreatDoor.Tpl
namespace Go.Proofs.YthngelbaheankaaGreatDoor.Tpl
open Go.RowKit Go.Proofs Go.Proofs.YthngelbaheankaaGreatDoor.PB Go.Proofs.YthngelbaheankaaGreatDoor.Short Go.Proofs.YthngelbaheankaaGreatDoorW.PrintWords Go.Proofs.YthngelbaheankaaGreatDoorW.PrintLast Go.Proofs.YthngelbaheankaaGreatDoorW.PrintMore
theorem put_facts {l m : List Cat} {x : Cat} (h : putP l x = (m, 0)) : allC m = true ∧ findC m x.n = some x ∧ (∀ s, s ≠ x.n → findC m s = findC l s) ∧ x.n ∈ namesC m ∧ allC l = true ∧ (∀ y ∈ m, y = x ∨ y ∈ l) := by
  unfold putP at h
  by_cases hl : allC l = true
  · rw [if_pos hl] at h
    by_cases hx : x.ok = true
    · rw [if_pos hx] at h
      by_cases h64 : (rputF x l false).length ≤ 64
      · rw [if_pos h64] at h
        injection h with h _
        obtain ⟨g1, g2, g3⟩ := allC_iff.1 hl
        -- a place exists
        obtain ⟨i, is, hAt⟩ : ∃ i is, AtP l x.n i is := by
          clear h h64 hx hl g1 g2
          induction l with
          | nil => exact ⟨0, false, Nat.le_refl _, fun j y hj => by omega, fun j y _ hy => by simp at hy, by simp⟩
          | cons y r ih =>
            rw [List.pairwise_cons] at g3
            by_cases hy : y.n < x.n
            · obtain ⟨i, is, a1, a2, a3, a4⟩ := ih g3.2
              refine ⟨i + 1, is, by simp; exact a1, fun j z hj hz => ?_, fun j z hj hz => ?_, by simpa using a4⟩
              · cases j with
                | zero => obtain rfl : y = z := by simpa using hz
                          exact hy
                | succ j => exact a2 j z (by omega) (by simpa using hz)
              · cases j with
                | zero => omega
                | succ j => exact a3 j z (by omega) (by simpa using hz)
            · refine ⟨0, decide (y.n = x.n), Nat.zero_le _, fun j z hj => by omega, fun j z _ hz => ?_, by simp⟩
              cases j with
              | zero => obtain rfl : y = z := by simpa using hz
                        exact hy
              | succ j => exact fun hlt => hy (S_tr (g3.1 z (List.mem_of_getElem? (by simpa using hz))) hlt)
        have hm : insC l x i is = m := by rw [← rput_ins x l g3 hAt]; exact h
        subst hm
        have hp2 := ins_pair g3 hAt
        have hin := ins_has hAt
        refine ⟨allC_iff.2 ⟨by rw [← h]; exact h64, fun y hy => ?_, hp2⟩, (find_mem hp2).2 hin, fun s hs => find_other g3 hAt hs, List.mem_map.2 ⟨x, hin, rfl⟩, hl, fun y hy => ins_mem hy⟩
        rcases ins_mem hy with rfl | hy
        · exact hx
        · exact g2 y hy
      · rw [if_neg h64] at h; injection h with _ h; cases h
    · rw [if_neg hx] at h; injection h with _ h; cases h
  · rw [if_neg hl] at h; injection h with _ h; cases h
theorem put_no {l m : List Cat} {x : Cat} {y : Int} (h : putP l x = (m, y)) (hy : y ≠ 0) : (allC l = false ∧ m = []) ∨ (allC l = true ∧ m = l) := by
  unfold putP at h
  by_cases hl : allC l = true
  · rw [if_pos hl] at h
    refine .inr ⟨hl, ?_⟩
    split at h
    · split at h
      · injection h with _ h; exact absurd h.symm hy
      · injection h with h _; exact h.symm
    · injection h with h _; exact h.symm
  · rw [if_neg hl] at h
    injection h with h _
    exact .inl ⟨by simpa using hl, h.symm⟩
theorem any_take1 {p : List S} {j : Nat} (n : S) (hj : j < p.length) : (p.take (j + 1)).any (· == n) = ((p.take j).any (· == n) || p.getD j [] == n) := by
  rw [List.take_add_one, List.any_append, List.getElem?_eq_getElem hj]
  simp [List.getD, hj]
set_option maxHeartbeats 8000000 in
set_option maxRecDepth 100000 in
theorem cfound_walk (l : List Cat) (A : Option Addr) (c : Nat) (x : Cat) (Ax : Option Addr) (cx : Nat) (a : ByteArray) (w : World) (hG : GlobC w) (hs : smC l) (hR : RdC w A c l) (hxs : x.sm) (hX : RdL w Ax cx x.ch) (_ : a.size ≤ 1048576) :
    Calls Tryz.prog 6 #[.slice A l.length c, catV x Ax cx, .string a] w fun e w' => e = .returned (.bool true) ∧ Below w.heap.size w w' := by
  obtain ⟨o, rfl⟩ : ∃ o, bs o = a := ⟨a.data.toList, by cases a; simp [bs]⟩
  have hb1 := below_alloc (Below.refl w.heap.size w) (catO x Ax cx)
  have BK := blk_new w (catO x Ax cx)
  have HG := Aside0.mk (hG.below hb1)
  have HR := Aside0.mk (hR.below hb1)
  have HX := Aside0.mk (hX.below hb1)
  have HB := Aside0.mk hb1
  have HS := Aside0.mk hs
  have HXS := Aside0.mk hxs
  clear hG hR hX hb1 hs hxs
  go_enter Tryz.func6, Tryz.ntmps6
  go_upto_region 1 with (fail)
  generalize w.alloc (catO x Ax cx) = W at BK HG HB HR HX ⊢
  generalize w.heap.size = b1 at BK ⊢
  have HBK := Aside0.mk BK
  clear BK
  go_wp2_with fail
  refine (lives18_any W HG.out).mono ?_
  rintro e W1 ⟨rfl, hb⟩
  have BK1 := Aside0.mk (blk_below HBK.out hb)
  have HB1 := Aside0.mk (below_step HB.out hb)
  have HR1 := Aside0.mk (HR.out.below hb)
  have HX1 := Aside0.mk (HX.out.below hb)
  have HG1 := Aside0.mk (HG.out.below hb)
  clear hb HBK HB HR HX HG
  obtain ⟨y0, y1, y2, y3, y4, y5, -⟩ := cells_6 BK1.out
  have h1 := cput_any l A c x Ax cx W1 HG1.out HS.out HR1.out HXS.out HX1.out
  obtain ⟨m, y, hpm⟩ : ∃ m y, putP l x = (m, y) := ⟨_, _, rfl⟩
  rw [hpm] at h1
  have HPM := Aside0.mk hpm
  clear hpm
  go_wp2_with fail
  refine h1.mono ?_
  rintro e W2 ⟨⟨Am, cm, rfl, hM⟩, hb⟩
  have BK2 := Aside0.mk (blk_below BK1.out hb)
  have HB2 := Aside0.mk (below_step HB1.out hb)
  have HR2 := Aside0.mk (HR1.out.below hb)
  have HX2 := Aside0.mk (HX1.out.below hb)
  have HG2 := Aside0.mk (HG1.out.below hb)
  have HM2 : Aside0 (RdC W2 Am cm m) := ⟨hM⟩
  clear h1 hb hM BK1 HB1 HR1 HX1 HG1 y0 y1 y2 y3 y4 y5
  by_cases hy : y = 0
  · subst hy
    obtain ⟨f1, f2, f3, f4, f5, f6⟩ := put_facts HPM.out
    have hml : m.length ≤ 64 := (allC_iff.1 f1).1
    have HSM : Aside0 (smC m) := ⟨by omega, fun z hz => by rcases f6 z hz with rfl | h; exact HXS.out; exact HS.out.2 z h⟩
    have HF1 := Aside0.mk f1
    have HF3 := Aside0.mk f3
    have HF4 := Aside0.mk f4
    have HF5 := Aside0.mk f5
    have hfx : findP m x.n = (x, 0) := by unfold findP; rw [f1, if_pos rfl, f2]
    clear f1 f2 f3 f4 f5 f6 HPM
    obtain ⟨y0, y1, y2, y3, y4, y5, -⟩ := cells_6 BK2.out
    have h1 := cfind_any m Am cm x.n W2 HG2.out HSM.out HM2.out
    rw [hfx] at h1
    clear hfx
    go_wp2_with fail
    refine h1.mono ?_
    rintro e W3 ⟨⟨Ad, cd, rfl, hD⟩, hb⟩
    have hb2 := below_alloc hb (catO x Ad cd)
    have BD := blk_new W3 (catO x Ad cd)
    have BK3 := Aside0.mk (blk_below BK2.out hb2)
    have HB3 := Aside0.mk (below_step HB2.out hb2)
    have HR3 := Aside0.mk (HR2.out.below hb2)
    have HX3 := Aside0.mk (HX2.out.below hb2)
    have HG3 := Aside0.mk (HG2.out.below hb2)
    have HM3 := Aside0.mk (HM2.out.below hb2)
    have HD3 : Aside0 (RdL (W3.alloc (catO x Ad cd)) Ad cd x.ch) := ⟨RdL.below hD (below_alloc (Below.refl _ _) _)⟩
    clear h1 hb hb2 hD BK2 HB2 HR2 HX2 HG2 HM2 y0 y1 y2 y3 y4 y5
    go_upto_region 7 with (fail)
    generalize W3.alloc (catO x Ad cd) = W4 at BD BK3 HB3 HR3 HX3 HG3 HM3 HD3 ⊢
    generalize W3.heap.size = bd at BD ⊢
    have HBD := Aside0.mk BD
    clear BD
    -- the other one, in both
    obtain ⟨xa, ya, hpa⟩ : ∃ xa ya, findP l o = (xa, ya) := ⟨_, _, rfl⟩
    have h1 := cfind_any l A c o W4 HG3.out HS.out HR3.out
    rw [hpa] at h1
    have HPA := Aside0.mk hpa
    clear hpa
    go_wp2_with fail
    refine h1.mono ?_
    rintro e W5 ⟨⟨Aa, ca, rfl, hD⟩, hb⟩
    have hb2 := below_alloc hb (catO xa Aa ca)
    have BA := blk_new W5 (catO xa Aa ca)
    have BK5 := Aside0.mk (blk_below BK3.out hb2)
    have BD5 := Aside0.mk (blk_below HBD.out hb2)
    have HB5 := Aside0.mk (below_step HB3.out hb2)
    have HX5 := Aside0.mk (HX3.out.below hb2)
    have HG5 := Aside0.mk (HG3.out.below hb2)
    have HM5 := Aside0.mk (HM3.out.below hb2)
    have HD5 := Aside0.mk (HD3.out.below hb2)
    have HA5 : Aside0 (RdL (W5.alloc (catO xa Aa ca)) Aa ca xa.ch) := ⟨RdL.below hD (below_alloc (Below.refl _ _) _)⟩
    clear h1 hb hb2 hD BK3 HBD HB3 HR3 HX3 HG3 HM3 HD3
    go_upto_region 8 with (fail)
    generalize W5.alloc (catO xa Aa ca) = W6 at BA BK5 BD5 HB5 HX5 HG5 HM5 HD5 HA5 ⊢
    generalize W5.heap.size = ba at BA ⊢
    have HBA := Aside0.mk BA
    clear BA
    obtain ⟨xb, yb, hpb⟩ : ∃ xb yb, findP m o = (xb, yb) := ⟨_, _, rfl⟩
    have h1 := cfind_any m Am cm o W6 HG5.out HSM.out HM5.out
    rw [hpb] at h1
    have HPB := Aside0.mk hpb
    clear hpb
    go_wp2_with fail
    refine h1.mono ?_
    rintro e W7 ⟨⟨Ab, cb, rfl, hD⟩, hb⟩
    have hb2 := below_alloc hb (catO xb Ab cb)
    have BB := blk_new W7 (catO xb Ab cb)
    have BK7 := Aside0.mk (blk_below BK5.out hb2)
    have BD7 := Aside0.mk (blk_below BD5.out hb2)
    have BA7 := Aside0.mk (blk_below HBA.out hb2)
    have HB7 := Aside0.mk (below_step HB5.out hb2)
    have HX7 := Aside0.mk (HX5.out.below hb2)
    have HG7 := Aside0.mk (HG5.out.below hb2)
    have HM7 := Aside0.mk (HM5.out.below hb2)
    have HD7 := Aside0.mk (HD5.out.below hb2)
    have HA7 := Aside0.mk (HA5.out.below hb2)
    have HBb7 : Aside0 (RdL (W7.alloc (catO xb Ab cb)) Ab cb xb.ch) := ⟨RdL.below hD (below_alloc (Below.refl _ _) _)⟩
    clear h1 hb hb2 hD BK5 BD5 HBA HB5 HX5 HG5 HM5 HD5 HA5
    go_upto_region 9 with (fail)
    generalize W7.alloc (catO xb Ab cb) = W8 at BB BK7 BD7 BA7 HB7 HX7 HG7 HM7 HD7 HA7 HBb7 ⊢
    generalize W7.heap.size = bb at BB ⊢
    have HBB := Aside0.mk BB
    clear BB
    have h1 := cnames_any m Am cm W8 HG7.out HSM.out HM7.out
    have hwm : whyA m = 0 := by unfold whyA; rw [HF1.out]; rfl
    simp only [hwm, HF1.out, if_true] at h1
    clear hwm
    go_wp2_with fail
    refine h1.mono ?_
    rintro e W9 ⟨⟨An, cn, rfl, hN⟩, hb⟩
    have BK9 := Aside0.mk (blk_below BK7.out hb)
    have BD9 := Aside0.mk (blk_below BD7.out hb)
    have BA9 := Aside0.mk (blk_below BA7.out hb)
    have BB9 := Aside0.mk (blk_below HBB.out hb)
    have HB9 := Aside0.mk (below_step HB7.out hb)
    have HX9 := Aside0.mk (HX7.out.below hb)
    have HG9 := Aside0.mk (HG7.out.below hb)
    have HM9 := Aside0.mk (HM7.out.below hb)
    have HD9 := Aside0.mk (HD7.out.below hb)
    have HA9 := Aside0.mk (HA7.out.below hb)
    have HBb9 := Aside0.mk (HBb7.out.below hb)
    have HN9 := Aside0.mk hN
    clear h1 hb hN BK7 BD7 BA7 HBB HB7 HX7 HG7 HM7 HD7 HA7 HBb7
    have hnl : (namesC m).length ≤ 64 := by unfold namesC; rw [List.length_map]; exact hml
    generalize hns : namesC m = ns at HN9 hnl HF4
    obtain ⟨y0, y1, y2, y3, y4, y5, -⟩ := cells_6 BK9.out
    go_wp2
    go_loop [17, 69] (fun v17 v => ∃ j : Nat, v = .int .i64 j ∧ j ≤ ns.length ∧ v17 = .bool ((ns.take j).any (· == x.n))) (fun _ v => ns.length - (intOf v).toNat)
    case atStart => exact ⟨0, rfl, Nat.zero_le _, rfl⟩
    case round =>
      obtain ⟨j, rfl, hj, rfl⟩ := hrel
      by_cases hlt : j < ns.length
      · obtain ⟨bq, oq, rfl, hcl⟩ := cellS HN9.out j hlt
        have hat := any_take1 x.n hlt
        have e2 : ((bs (ns.getD j [])).toList == (bs x.n).toList) = (ns.getD j [] == x.n) := by rw [bs_list, bs_list]
        generalize ns.getD j [] = s1 at hcl hat e2
        generalize (s1 == x.n) = t at hat e2
        generalize (ns.take j).any (· == x.n) = q at hat ⊢
        have HAT := Aside0.mk hat
        clear hat
        cases q
        all_goals
          go_wp2
          go_round
          case rel => exact ⟨j + 1, by go_num, by omega, by rw [HAT.out]; simp⟩
          case measure => simp [intOf]; omega
      · obtain rfl : j = ns.length := by omega
        have hany : (ns.take ns.length).any (· == x.n) = true := by rw [List.take_length, List.any_eq_true]; exact ⟨x.n, HF4.out, by simp⟩
        rw [hany]
        obtain ⟨d0, d1, d2, d3, d4, d5, -⟩ := cells_6 BD9.out
        have h1 := rsame_any x x Ad cd Ax cx W9 HXS.out.2.1 HD9.out HX9.out
        have h1' : Calls Tryz.prog 29 #[catV x Ad cd, catV x Ax cx] W9 fun e w' => e = .returned (.bool true) ∧ Below W9.heap.size W9 w' := h1.mono fun e w' ⟨⟨r, he, hr⟩, hb⟩ => ⟨by rw [he, hr.2 rfl], hb⟩
        clear h1 hany hns
        by_cases ho : o = x.n
        · have e1 : ((bs o).toList == (bs x.n).toList) = true := by rw [bs_list, bs_list, beq_iff_eq]; exact ho
          clear ho
          go_wp2_with fail
          refine h1'.mono ?_
          rintro e WA ⟨rfl, hb⟩
          have HBA := Aside0.mk (below_step HB9.out hb)
          have hall := call_any m Am cm WA (HG9.out.below hb) HSM.out (HM9.out.below hb)
          have hwm : whyA m = 0 := by unfold whyA; rw [HF1.out]; rfl
          rw [hwm] at hall
          obtain ⟨y0, y1, y2, y3, y4, y5, -⟩ := cells_6 (blk_below BK9.out hb)
          clear hb h1' hwm d0 d1 d2 d3 d4 d5
          go_wp2_with fail
          refine hall.mono ?_
          rintro e WB ⟨rfl, hb⟩
          have HBB := Aside0.mk (below_step HBA.out hb)
          clear hb hall
          go_wp2
          go_ret
          exact ⟨rfl, HBB.out⟩
        · have e1 : ((bs o).toList == (bs x.n).toList) = false := by rw [bs_list, bs_list, beq_eq_false_iff_ne]; exact ho
          have hsame : (xa, ya) = (xb, yb) := by
            rw [← HPA.out, ← HPB.out]
            unfold findP
            rw [HF1.out, HF5.out, HF3.out o ho]
          injection hsame with g1 g2
          subst g1 g2
          have eyy : (ya == ya) = true := by simp
          clear ho
          go_wp2_with fail
          refine h1'.mono ?_
          rintro e WA ⟨rfl, hb⟩
          have HBA := Aside0.mk (below_step HB9.out hb)
          have HGA := Aside0.mk (HG9.out.below hb)
          have HMA := Aside0.mk (HM9.out.below hb)
          obtain ⟨y0, y1, y2, y3, y4, y5, -⟩ := cells_6 (blk_below BK9.out hb)
          obtain ⟨p0, p1, p2, p3, p4, p5, -⟩ := cells_6 (blk_below BA9.out hb)
          obtain ⟨q0, q1, q2, q3, q4, q5, -⟩ := cells_6 (blk_below BB9.out hb)
          have hxl : xa.ch.length ≤ 1048576 := by
            have hh := HPA.out
            unfold findP at hh
            rw [HF5.out, if_pos rfl] at hh
            split at hh
            · rename_i z hz
              injection hh with hh _
              rw [← hh]
              exact (HS.out.2 z (List.mem_of_find?_eq_some hz)).2.1
            · injection hh with hh _; rw [← hh]; decide
          have h2 := rsame_any xa xa Aa ca Ab cb WA hxl (HA9.out.below hb) (HBb9.out.below hb)
          have h2' : Calls Tryz.prog 29 #[catV xa Aa ca, catV xa Ab cb] WA fun e w' => e = .returned (.bool true) ∧ Below WA.heap.size WA w' := h2.mono fun e w' ⟨⟨r, he, hr⟩, hb⟩ => ⟨by rw [he, hr.2 rfl], hb⟩
          clear hb h1' h2 hxl d0 d1 d2 d3 d4 d5
          go_wp2_with fail
          refine h2'.mono ?_
          rintro e WC ⟨rfl, hb⟩
          have HBC := Aside0.mk (below_step HBA.out hb)
          have hall := call_any m Am cm WC (HGA.out.below hb) HSM.out (HMA.out.below hb)
          have hwm : whyA m = 0 := by unfold whyA; rw [HF1.out]; rfl
          rw [hwm] at hall
          clear hb h2' hwm p0 p1 p2 p3 p4 p5 q0 q1 q2 q3 q4 q5 y0 y1 y2 y3 y4 y5
          go_wp2_with fail
          refine hall.mono ?_
          rintro e WB ⟨rfl, hb⟩
          have HBB := Aside0.mk (below_step HBC.out hb)
          clear hb hall
          go_wp2
          go_ret
          exact ⟨rfl, HBB.out⟩
  · have hyb : (y == 0) = false := by rw [beq_eq_false_iff_ne]; exact hy
    have hall := call_any l A c W2 HG2.out HS.out HR2.out
    rcases put_no HPM.out hy with ⟨hl, rfl⟩ | ⟨hl, rfl⟩
    · have hwm : whyA l = 2 := by unfold whyA; rw [hl]; rfl
      rw [hwm] at hall
      clear hwm hl
      go_wp2_with fail
      refine hall.mono ?_
      rintro e W3 ⟨rfl, hb⟩
      have HB3 := Aside0.mk (below_step HB2.out hb)
      clear hb hall
      go_wp2
      go_ret
      exact ⟨rfl, HB3.out⟩
    · have hwm : whyA m = 0 := by unfold whyA; rw [hl]; rfl
      rw [hwm] at hall
      clear hwm hl
      go_wp2_with fail
      refine hall.mono ?_
      rintro e W3 ⟨rfl, hb⟩
      have HB3 := Aside0.mk (below_step HB2.out hb)
      have h2 := rsameAll_any m m Am cm A c W3 HS.out (HM2.out.below hb) (HR2.out.below hb)
      rw [oneB_iff.2 rfl] at h2
      clear hb hall
      go_wp2_with fail
      refine h2.mono ?_
      rintro e W4 ⟨rfl, hb⟩
      have HB4 := Aside0.mk (below_step HB3.out hb)
      clear hb h2
      go_wp2
      go_ret
      exact ⟨rfl, HB4.out⟩
end Go.Proofs.YthngelbaheankaaGreatDoor.Tpl
namespace Go.Proofs.YthngelbaheankaaGreatDoor.Tpl
open Go.RowKit Go.ChangeShapes Go.WideShapes Go.Proofs.YthngelbaheankaaGreatDoor.PB Go.Proofs.YthngelbaheankaaGreatDoorW.PrintWords
section
variable {H : Type} {enc : TypeId × Value → H} {W : World}
theorem bulk_strs (ss : List ByteArray) : (ss.length ≤ Rows.uptoBulkAll (strs (H := H) ss)) ∧ ∀ s ∈ ss, s.size ≤ Rows.uptoBulkAll (strs (H := H) ss) := by
  induction ss with
  | nil => exact ⟨Nat.zero_le _, fun _ h => by cases h⟩
  | cons s ss ih =>
    have e : Rows.uptoBulkAll (strs (H := H) (s :: ss)) = (s.size + 1) + Rows.uptoBulkAll (strs (H := H) ss) := by
      show Rows.uptoBulkAll (DataW.lit (.string s.data.toList) :: strs ss) = _
      simp only [Rows.uptoBulkAll, Rows.uptoBulk, Array.length_toList]
      rfl
    rw [e]
    refine ⟨by simp only [List.length_cons]; omega, fun x hx => ?_⟩
    rcases List.mem_cons.1 hx with rfl | hx
    · omega
    · have := ih.2 x hx; omega
theorem cells_strs : Tryz.prog.cellsOf 9 = 1 := by kernel_rfl
theorem cells_node : Tryz.prog.cellsOf 116 = 5 := by kernel_rfl
theorem cells_kind : Tryz.prog.cellsOf 108 = 1 := by kernel_rfl
theorem cells_names : Tryz.prog.cellsOf 25 = 1 := by kernel_rfl
theorem cells_nodes : Tryz.prog.cellsOf 22 = 1 := by kernel_rfl
theorem under_kind : Tryz.prog.underlying 108 = some (.int .u8) := by kernel_rfl
theorem bs_toList (s : ByteArray) : bs s.data.toList = s := by cases s; simp [bs]
theorem open_names {fuel : Nat} {cs : List Value} {x : DataW H × List MemPlace} (h : DataW.trod enc Tryz.prog W 0 (fun _ => true) true fuel 25 cs = some x) :
    ∃ A c names, cs = [.slice A names.length c] ∧ RdS W A c names ∧ names.length ≤ Rows.uptoBulk x.1 ∧ ∀ s ∈ names, s.length ≤ Rows.uptoBulk x.1 := by
  rcases open_strings Tryz.underlying25 Tryz.underlying9 cells_strs h with ⟨rfl, rfl⟩ | ⟨a, len, cap, ss, rfl, _, hl, hm, hz, rfl, hcell, hsz⟩
  · exact ⟨none, 0, [], rfl, ⟨⟨rfl, Nat.zero_le _, fun h => absurd h (by simp)⟩, Nat.le_refl _⟩, Nat.zero_le _, fun _ h => by cases h⟩
  · have hz' : ss.length = cap := by simpa using hz
    have hlen : (ss.take len).length = len := by simp; omega
    obtain ⟨b1, b2⟩ := bulk_strs (H := H) (ss.take len)
    have hb : Rows.uptoBulkAll (strs (H := H) (ss.take len)) ≤ Rows.uptoBulk (.slice (strs (H := H) (ss.take len)) (strs (ss.drop len))) := by simp only [Rows.uptoBulk]; omega
    have hmap : ((ss.take len).map (fun s => s.data.toList)).map bs = ss.take len := by
      rw [List.map_map]
      conv => rhs; rw [← List.map_id (ss.take len)]
      exact List.map_congr_left fun s _ => bs_toList s
    refine ⟨some a, cap, (ss.take len).map (fun s => s.data.toList), by rw [List.length_map, hlen], ⟨?_, by rw [List.length_map, hlen]; exact hl⟩, by simp only [List.length_map]; omega, ?_⟩
    · rw [hmap]
      refine ⟨by simp, by simp only [List.length_map, hlen]; unfold maxLen at hm; omega, fun _ => ⟨a, rfl, fun j p hp => ⟨[.string p], rfl, rfl, fun i u hu => ?_⟩⟩⟩
      have hj : j < len := by have := (List.getElem?_eq_some_iff.1 hp).1; omega
      obtain ⟨rfl, rfl⟩ : i = 0 ∧ .string p = u := by cases i with | zero => exact ⟨rfl, by simpa using hu⟩ | succ i => simp at hu
      have hc := hcell j (by omega)
      rw [List.getElem?_take, if_pos hj] at hp
      rw [List.getD_eq_getElem?_getD, hp] at hc
      show W.cell? (a.add (j * 1 + 0)) = _
      rw [Nat.mul_one]
      exact hc
    · intro s hs
      obtain ⟨s', hs', rfl⟩ := List.mem_map.1 hs
      have := b2 s' hs'
      show s'.data.toList.length ≤ _
      rw [Array.length_toList]
      exact Nat.le_trans (show s'.data.size ≤ _ from this) hb
theorem five {α : Type} {l : List α} (h : l.length = 5) : ∃ a b c d e, l = [a, b, c, d, e] :=
  match l, h with | [a, b, c, d, e], _ => ⟨a, b, c, d, e, rfl⟩
def Elem (W : World) (ad : Addr) (j : Nat) (y : DataW H) : Prop :=
  ∃ k t p a b, (∃ c, c.length = 5 ∧ kN.K W ⟨(k : Nat), bs t, p.map bs, Nodes.of a, Nodes.of b⟩ c ∧ ∀ i u, c[i]? = some u → W.cell? (ad.add (j * 5 + i)) = some u) ∧
    (Rows.uptoBulk y ≤ 1048576 → (Nodes.cons k t p a b .nil).sm) ∧ 1 + a.cnt + b.cnt ≤ Rows.uptoBulk y
theorem gather {ad : Addr} : ∀ (ys : List (DataW H)) (o : Nat), (∀ j y, ys[j]? = some y → Elem W ad (o + j) y) →
    ∃ l : Nodes, l.len = ys.length ∧ (∀ j x, l.of[j]? = some x → ∃ c, c.length = 5 ∧ kN.K W x c ∧ ∀ i u, c[i]? = some u → W.cell? (ad.add ((o + j) * 5 + i)) = some u) ∧
      (Rows.uptoBulkAll ys ≤ 1048576 → l.sm) ∧ l.cnt ≤ Rows.uptoBulkAll ys := by
  intro ys
  induction ys with
  | nil => exact fun o _ => ⟨.nil, rfl, fun j x h => by simp [Nodes.of] at h, fun _ => trivial, Nat.zero_le _⟩
  | cons y ys ih =>
    intro o h
    obtain ⟨r, h1, h2, h3, h4⟩ := ih (o + 1) (fun j z hz => by have := h (j + 1) z (by simpa using hz); rwa [show o + (j + 1) = o + 1 + j by omega] at this)
    obtain ⟨k, t, p, a, b, hc, hs, hn⟩ := h 0 y rfl
    refine ⟨.cons k t p a b r, by simp [Nodes.len, h1], ?_, ?_, ?_⟩
    · intro j x hx
      cases j with
      | zero =>
        have : (⟨(k : Nat), bs t, p.map bs, Nodes.of a, Nodes.of b⟩ : SN) = x := by simpa [Nodes.of] using hx
        subst this
        exact hc
      | succ j =>
        have := h2 j x (by simpa [Nodes.of] using hx)
        rwa [show o + 1 + j = o + (j + 1) by omega] at this
    · intro hb
      simp only [Rows.uptoBulkAll] at hb
      obtain ⟨g1, g2, g3, g4, g5, g6, g7, g8, _⟩ := hs (by omega)
      exact ⟨g1, g2, g3, g4, g5, g6, g7, g8, h3 (by omega)⟩
    · simp only [Rows.uptoBulkAll, Nodes.cnt]
      omega
theorem cnt_len (l : Nodes) : l.len ≤ l.cnt := by
  induction l with
  | nil => exact Nat.le_refl _
  | cons k t p a b r _ _ ih => simp only [Nodes.len, Nodes.cnt]; omega
theorem open_nodes : ∀ (fuel : Nat) (cs : List Value) (x : DataW H × List MemPlace), DataW.trod enc Tryz.prog W 0 (fun _ => true) true fuel 22 cs = some x →
    ∃ A c l, cs = [.slice A (Nodes.len l) c] ∧ Nodes.Rd W A c l ∧ (Rows.uptoBulk x.1 ≤ 1048576 → l.sm) ∧ l.cnt + 1 ≤ Rows.uptoBulk x.1 := by
  intro fuel
  induction fuel using Nat.strongRecOn with
  | ind fuel ih =>
  intro cs x h
  rcases DataW.trod_slice Tryz.underlying22 h with ⟨rfl, rfl⟩ | ⟨ad, len, cap, elems, rest, n, rfl, rfl, rfl, _, hl, hm, hlen, hel, _, _⟩
  · exact ⟨none, 0, .nil, rfl, ⟨⟨rfl, Nat.zero_le _, fun h => absurd h (by simp [Nodes.len])⟩, Nat.le_refl _⟩, fun _ => trivial, Nat.le_refl _⟩
  · have each : ∀ j y, (elems.map (·.1))[j]? = some y → Elem W ad (0 + j) y := by
      intro j y hy
      rw [List.getElem?_map] at hy
      obtain ⟨z, hz, rfl⟩ := Option.map_eq_some_iff.1 hy
      have hj : j < len := by have := (List.getElem?_eq_some_iff.1 hz).1; omega
      have hb := hel j hj
      rw [hz, cells_node, Option.bind_eq_some_iff] at hb
      obtain ⟨c, hc, hd⟩ := hb
      obtain ⟨_, hc5, hcell⟩ := World.cells?_some hc
      obtain ⟨xs, m, rfl, rfl, _, hxs, hf⟩ := DataW.trod_struct Tryz.underlying116 hd
      obtain ⟨y0, y1, y2, y3, y4, rfl⟩ := five hxs
      obtain ⟨v0, v1, v2, v3, v4, rfl⟩ := five hc5
      have f0 := hf 0 _ rfl
      have f1 := hf 1 _ rfl
      have f2 := hf 2 _ rfl
      have f3 := hf 3 _ rfl
      have f4 := hf 4 _ rfl
      simp only [List.getElem_toArray, List.getElem_cons_zero, List.getElem_cons_succ, cells_kind] at f0
      simp only [List.getElem_toArray, List.getElem_cons_zero, List.getElem_cons_succ, cells_strs] at f1
      simp only [List.getElem_toArray, List.getElem_cons_zero, List.getElem_cons_succ, cells_names] at f2
      simp only [List.getElem_toArray, List.getElem_cons_zero, List.getElem_cons_succ, cells_nodes] at f3 f4
      obtain ⟨k, e0, rfl, hk⟩ := DataW.trod_int under_kind f0
      obtain ⟨s, e1, rfl, hs⟩ := DataW.trod_string Tryz.underlying9 f1
      obtain ⟨A2, c2, p, e2, hp, lp, sp⟩ := open_names f2
      obtain ⟨A3, c3, a, e3, ha, sa, na⟩ := ih m (by omega) _ _ f3
      obtain ⟨A4, c4, b, e4, hb, sb, nb⟩ := ih m (by omega) _ _ f4
      simp only [List.drop, List.take, List.cons.injEq, and_true] at e0 e1 e2 e3 e4
      subst e0 e1 e2 e3 e4
      have hk' : 0 ≤ k ∧ k < 256 := by
        have h1 : IntKind.u8.min = 0 := by decide
        have h2 : IntKind.u8.max = 255 := by decide
        have := hk
        simp [Lit.wf, h1, h2] at this
        omega
      obtain ⟨k, rfl⟩ : ∃ q : Nat, k = q := ⟨k.toNat, by omega⟩
      refine ⟨k, s.data.toList, p, a, b, ⟨[.int .u8 k, .string s, .slice A2 p.length c2, .slice A3 (Nodes.len a) c3, .slice A4 (Nodes.len b) c4], rfl, ?_, fun i u hu => ?_⟩, ?_, ?_⟩
      · rw [bs_toList]
        have := k116_mk W (⟨(k : Nat), s, p.map bs, Nodes.of a, Nodes.of b⟩ : SN) (A2 := A2) (c2 := c2) (by simpa using hp.2) (by simpa using hp.1) (A3 := A3) (c3 := c3) (by simpa [Nodes.of_len] using ha.2) (by simpa [Nodes.of_len] using ha.1) (A4 := A4) (c4 := c4) (by simpa [Nodes.of_len] using hb.2) (by simpa [Nodes.of_len] using hb.1)
        simpa [Nodes.of_len] using this
      · have hi : i < 5 := by have := (List.getElem?_eq_some_iff.1 hu).1; simpa using this
        rw [Nat.zero_add, ← hu, ← hcell i hi, Go.Deep.add_add]
      · intro hbk
        simp only [List.map_cons, List.map_nil, Rows.uptoBulk, Rows.uptoBulkAll] at hbk
        refine ⟨by omega, by omega, by omega, fun q hq => ?_, ?_, ?_, sa (by omega), sb (by omega), trivial⟩
        · have := sp q hq; omega
        · have := cnt_len a; omega
        · have := cnt_len b; omega
      · simp only [List.map_cons, List.map_nil, Rows.uptoBulk, Rows.uptoBulkAll]
        omega
    obtain ⟨l, h1, h2, h3, h4⟩ := gather (elems.map (·.1)) 0 each
    have h1' : l.len = len := by rw [h1, List.length_map, hlen]
    refine ⟨some ad, cap, l, by rw [h1'], ⟨⟨Nodes.of_len l, by rw [h1']; unfold maxLen at hm; omega, fun _ => ⟨ad, rfl, fun j p hp => ?_⟩⟩, by omega⟩, ?_, ?_⟩
    · have := h2 j p hp
      rwa [Nat.zero_add] at this
    · intro hb
      simp only [Rows.uptoBulk] at hb
      exact h3 (by omega)
    · simp only [Rows.uptoBulk]
      omega
end
end Go.Proofs.YthngelbaheankaaGreatDoor.Tpl
namespace Go.Proofs.YthngelbaheankaaGreatDoor.Tpl
open Go.RowKit Go.ChangeShapes Go.WideShapes Go.Proofs.YthngelbaheankaaGreatDoor.PB Go.Proofs.YthngelbaheankaaGreatDoorW.PrintWords
section
variable {H : Type} {enc : TypeId × Value → H} {W : World}
theorem cells_lev : Tryz.prog.cellsOf 41 = 4 := by kernel_rfl
theorem cells_cat : Tryz.prog.cellsOf 37 = 6 := by kernel_rfl
theorem cells_chan : Tryz.prog.cellsOf 28 = 1 := by kernel_rfl
theorem cells_int64 : Tryz.prog.cellsOf 2 = 1 := by kernel_rfl
theorem cells_int : Tryz.prog.cellsOf 3 = 1 := by kernel_rfl
theorem cells_bool : Tryz.prog.cellsOf 4 = 1 := by kernel_rfl
theorem cells_levs : Tryz.prog.cellsOf 35 = 1 := by kernel_rfl
theorem under_chan : Tryz.prog.underlying 28 = some (.int .u8) := by kernel_rfl
theorem four {α : Type} {l : List α} (h : l.length = 4) : ∃ a b c d, l = [a, b, c, d] :=
  match l, h with | [a, b, c, d], _ => ⟨a, b, c, d, rfl⟩
theorem six {α : Type} {l : List α} (h : l.length = 6) : ∃ a b c d e f, l = [a, b, c, d, e, f] :=
  match l, h with | [a, b, c, d, e, f], _ => ⟨a, b, c, d, e, f, rfl⟩
def ElemL (W : World) (ad : Addr) (j : Nat) (y : DataW H) : Prop :=
  ∃ x : Lev, (∃ c, c.length = 4 ∧ kLv.K W x.of c ∧ ∀ q u, c[q]? = some u → W.cell? (ad.add (j * 4 + q)) = some u) ∧ 1 ≤ Rows.uptoBulk y
theorem gatherL {ad : Addr} : ∀ (ys : List (DataW H)) (o : Nat), (∀ j y, ys[j]? = some y → ElemL W ad (o + j) y) →
    ∃ l : List Lev, l.length = ys.length ∧ (∀ j x, (l.map Lev.of)[j]? = some x → ∃ c, c.length = 4 ∧ kLv.K W x c ∧ ∀ i u, c[i]? = some u → W.cell? (ad.add ((o + j) * 4 + i)) = some u) ∧ l.length ≤ Rows.uptoBulkAll ys := by
  intro ys
  induction ys with
  | nil => exact fun o _ => ⟨[], rfl, fun j x h => by simp at h, Nat.zero_le _⟩
  | cons y ys ih =>
    intro o h
    obtain ⟨r, h1, h2, h3⟩ := ih (o + 1) (fun j z hz => by have := h (j + 1) z (by simpa using hz); rwa [show o + (j + 1) = o + 1 + j by omega] at this)
    obtain ⟨x, hc, hn⟩ := h 0 y rfl
    refine ⟨x :: r, by simp [h1], ?_, ?_⟩
    · intro j z hz
      cases j with
      | zero =>
        obtain rfl : x.of = z := by simpa using hz
        exact hc
      | succ j =>
        have := h2 j z (by simpa using hz)
        rwa [show o + 1 + j = o + (j + 1) by omega] at this
    · simp only [Rows.uptoBulkAll, List.length_cons]
      omega
theorem open_levels {fuel : Nat} {cs : List Value} {x : DataW H × List MemPlace} (h : DataW.trod enc Tryz.prog W 0 (fun _ => true) true fuel 35 cs = some x) :
    ∃ A c l, cs = [.slice A (List.length l) c] ∧ RdL W A c l ∧ l.length ≤ Rows.uptoBulk x.1 := by
  rcases DataW.trod_slice Tryz.underlying35 h with ⟨rfl, rfl⟩ | ⟨ad, len, cap, elems, rest, n, rfl, rfl, rfl, _, hl, hm, hlen, hel, _, _⟩
  · exact ⟨none, 0, [], rfl, ⟨⟨rfl, Nat.zero_le _, fun h => absurd h (by simp)⟩, Nat.le_refl _⟩, Nat.zero_le _⟩
  · have each : ∀ j y, (elems.map (·.1))[j]? = some y → ElemL W ad (0 + j) y := by
      intro j y hy
      rw [List.getElem?_map] at hy
      obtain ⟨z, hz, rfl⟩ := Option.map_eq_some_iff.1 hy
      have hj : j < len := by have := (List.getElem?_eq_some_iff.1 hz).1; omega
      have hb := hel j hj
      rw [hz, cells_lev, Option.bind_eq_some_iff] at hb
      obtain ⟨c, hc, hd⟩ := hb
      obtain ⟨_, hc4, hcell⟩ := World.cells?_some hc
      obtain ⟨xs, m, rfl, rfl, _, hxs, hf⟩ := DataW.trod_struct Tryz.underlying41 hd
      have f0 := hf 0 _ rfl
      have f1 := hf 1 _ rfl
      have f2 := hf 2 _ rfl
      have f3 := hf 3 _ rfl
      simp only [List.getElem_toArray, List.getElem_cons_zero, List.getElem_cons_succ, cells_chan] at f0
      simp only [List.getElem_toArray, List.getElem_cons_zero, List.getElem_cons_succ, cells_int64] at f1
      simp only [List.getElem_toArray, List.getElem_cons_zero, List.getElem_cons_succ, cells_int] at f2
      simp only [List.getElem_toArray, List.getElem_cons_zero, List.getElem_cons_succ, cells_int64] at f3
      obtain ⟨y0, y1, y2, y3, rfl⟩ := four hxs
      obtain ⟨v0, v1, v2, v3, rfl⟩ := four hc4
      simp only [List.getElem?_cons_zero, List.getElem?_cons_succ] at f0 f1 f2 f3
      obtain ⟨k, e0, rfl, hk⟩ := DataW.trod_int under_chan f0
      obtain ⟨a, e1, rfl, ha⟩ := DataW.trod_int Tryz.underlying2 f1
      obtain ⟨b, e2, rfl, hb⟩ := DataW.trod_int Tryz.underlying3 f2
      obtain ⟨d, e3, rfl, hd'⟩ := DataW.trod_int Tryz.underlying2 f3
      simp only [List.drop, List.take, List.cons.injEq, and_true] at e0 e1 e2 e3
      subst e0 e1 e2 e3
      have hk' : 0 ≤ k := by
        have h1 : IntKind.u8.min = 0 := by decide
        have h2 : IntKind.u8.max = 255 := by decide
        have := hk
        simp [Lit.wf, h1, h2] at this
        omega
      obtain ⟨k, rfl⟩ : ∃ q : Nat, k = q := ⟨k.toNat, by omega⟩
      refine ⟨⟨k, a, b, d⟩, ⟨_, rfl, k41_mk W (⟨k, a, b, d⟩ : Lev).of, fun q u hu => ?_⟩, ?_⟩
      · have hi : q < 4 := by have := (List.getElem?_eq_some_iff.1 hu).1; simpa using this
        have hu' : ([.int .u8 k, .int .i64 a, .int .i64 b, .int .i64 d] : List Value)[q]? = some u := hu
        rw [Nat.zero_add, ← hu', ← hcell q hi, Go.Deep.add_add]
      · simp only [Rows.uptoBulk]
        omega
    obtain ⟨l, h1, h2, h3⟩ := gatherL (elems.map (·.1)) 0 each
    have h1' : l.length = len := by rw [h1, List.length_map, hlen]
    refine ⟨some ad, cap, l, by rw [h1'], ⟨⟨by simp, by rw [h1']; unfold maxLen at hm; omega, fun _ => ⟨ad, rfl, fun j p hp => ?_⟩⟩, by omega⟩, ?_⟩
    · have := h2 j p hp
      rwa [Nat.zero_add] at this
    · simp only [Rows.uptoBulk]
      omega
theorem open_cat6 (m : Nat) (xs : List (DataW H × List MemPlace)) (c : List Value) (hxs : xs.length = 6) (hc6 : c.length = 6)
    (f0 : DataW.trod enc Tryz.prog W 0 (fun _ => true) true m 9 ((c.drop 0).take 1) = xs[0]?) (f1 : DataW.trod enc Tryz.prog W 0 (fun _ => true) true m 4 ((c.drop 1).take 1) = xs[1]?) (f2 : DataW.trod enc Tryz.prog W 0 (fun _ => true) true m 2 ((c.drop 2).take 1) = xs[2]?)
    (f3 : DataW.trod enc Tryz.prog W 0 (fun _ => true) true m 3 ((c.drop 3).take 1) = xs[3]?) (f4 : DataW.trod enc Tryz.prog W 0 (fun _ => true) true m 35 ((c.drop 4).take 1) = xs[4]?) (f5 : DataW.trod enc Tryz.prog W 0 (fun _ => true) true m 9 ((c.drop 5).take 1) = xs[5]?) :
    ∃ (x : Cat) (A : Option Addr) (cc : Nat), c = [.string (bs x.n), .bool x.cr, .int .i64 x.w, .int .i64 x.b, .slice A x.ch.length cc, .string (bs x.s)] ∧ RdL W A cc x.ch ∧ (Rows.uptoBulkAll (xs.map (·.1)) ≤ 1048576 → x.sm) := by
  obtain ⟨y0, y1, y2, y3, y4, y5, rfl⟩ := six hxs
  obtain ⟨v0, v1, v2, v3, v4, v5, rfl⟩ := six hc6
  simp only [List.getElem?_cons_zero, List.getElem?_cons_succ] at f0 f1 f2 f3 f4 f5
  obtain ⟨n, e0, rfl, hn⟩ := DataW.trod_string Tryz.underlying9 f0
  obtain ⟨cr, e1, rfl⟩ := DataW.trod_bool Tryz.underlying4 f1
  obtain ⟨a, e2, rfl, ha⟩ := DataW.trod_int Tryz.underlying2 f2
  obtain ⟨b, e3, rfl, hb⟩ := DataW.trod_int Tryz.underlying3 f3
  obtain ⟨A4, c4, ch, e4, hR, hl⟩ := open_levels f4
  obtain ⟨s, e5, rfl, hs⟩ := DataW.trod_string Tryz.underlying9 f5
  simp only [List.drop, List.take, List.cons.injEq, and_true] at e0 e1 e2 e3 e4 e5
  subst e0 e1 e2 e3 e4 e5
  refine ⟨⟨n.data.toList, cr, a, b, ch, s.data.toList⟩, A4, c4, ?_, hR, ?_⟩
  · simp only [bs_toList]
  · intro hbk
    simp only [List.map_cons, List.map_nil, Rows.uptoBulk, Rows.uptoBulkAll] at hbk
    refine ⟨by show n.data.toList.length ≤ 1048576; omega, by show ch.length ≤ 1048576; omega, by show s.data.toList.length ≤ 1048576; omega⟩
end
end Go.Proofs.YthngelbaheankaaGreatDoor.Tpl
namespace Go.Proofs.YthngelbaheankaaGreatDoor.Tpl
open Go.RowKit Go.ChangeShapes Go.WideShapes Go.Proofs.YthngelbaheankaaGreatDoor.PB Go.Proofs.YthngelbaheankaaGreatDoorW.PrintWords
section
variable {H : Type} {enc : TypeId × Value → H} {W : World}
theorem open_cat {fuel : Nat} {cs : List Value} {x : DataW H × List MemPlace} (h : DataW.trod enc Tryz.prog W 0 (fun _ => true) true fuel 37 cs = some x) :
    ∃ (v : Cat) (A : Option Addr) (c : Nat), cs = [.string (bs v.n), .bool v.cr, .int .i64 v.w, .int .i64 v.b, .slice A v.ch.length c, .string (bs v.s)] ∧ RdL W A c v.ch ∧ (Rows.uptoBulk x.1 ≤ 1048576 → v.sm) := by
  obtain ⟨xs, m, _, rfl, hl, hxs, hf⟩ := DataW.trod_struct Tryz.underlying37 h
  rw [cells_cat] at hl
  have f0 := hf 0 _ rfl
  have f1 := hf 1 _ rfl
  have f2 := hf 2 _ rfl
  have f3 := hf 3 _ rfl
  have f4 := hf 4 _ rfl
  have f5 := hf 5 _ rfl
  simp only [List.getElem_toArray, List.getElem_cons_zero, List.getElem_cons_succ, cells_strs] at f0
  simp only [List.getElem_toArray, List.getElem_cons_zero, List.getElem_cons_succ, cells_bool] at f1
  simp only [List.getElem_toArray, List.getElem_cons_zero, List.getElem_cons_succ, cells_int64] at f2
  simp only [List.getElem_toArray, List.getElem_cons_zero, List.getElem_cons_succ, cells_int] at f3
  simp only [List.getElem_toArray, List.getElem_cons_zero, List.getElem_cons_succ, cells_levs] at f4
  simp only [List.getElem_toArray, List.getElem_cons_zero, List.getElem_cons_succ, cells_strs] at f5
  obtain ⟨v, A, c, rfl, hR, hs⟩ := open_cat6 m xs cs hxs hl f0 f1 f2 f3 f4 f5
  refine ⟨v, A, c, rfl, hR, fun hb => ?_⟩
  simp only [Rows.uptoBulk] at hb
  exact hs (by omega)
def ElemC (W : World) (ad : Addr) (j : Nat) (y : DataW H) : Prop :=
  ∃ x : Cat, (∃ c, c.length = 6 ∧ kCt.K W x.of c ∧ ∀ q u, c[q]? = some u → W.cell? (ad.add (j * 6 + q)) = some u) ∧ (Rows.uptoBulk y ≤ 1048576 → x.sm) ∧ 1 ≤ Rows.uptoBulk y
theorem gatherC {ad : Addr} : ∀ (ys : List (DataW H)) (o : Nat), (∀ j y, ys[j]? = some y → ElemC W ad (o + j) y) →
    ∃ l : List Cat, l.length = ys.length ∧ (∀ j x, (l.map Cat.of)[j]? = some x → ∃ c, c.length = 6 ∧ kCt.K W x c ∧ ∀ i u, c[i]? = some u → W.cell? (ad.add ((o + j) * 6 + i)) = some u) ∧ (Rows.uptoBulkAll ys ≤ 1048576 → ∀ x ∈ l, x.sm) ∧ l.length ≤ Rows.uptoBulkAll ys := by
  intro ys
  induction ys with
  | nil => exact fun o _ => ⟨[], rfl, fun j x h => by simp at h, fun _ x hx => (by cases hx), Nat.zero_le _⟩
  | cons y ys ih =>
    intro o h
    obtain ⟨r, h1, h2, h3, h4⟩ := ih (o + 1) (fun j z hz => by have := h (j + 1) z (by simpa using hz); rwa [show o + (j + 1) = o + 1 + j by omega] at this)
    obtain ⟨x, hc, hs, hn⟩ := h 0 y rfl
    refine ⟨x :: r, by simp [h1], ?_, ?_, ?_⟩
    · intro j z hz
      cases j with
      | zero =>
        obtain rfl : x.of = z := by simpa using hz
        exact hc
      | succ j =>
        have := h2 j z (by simpa using hz)
        rwa [show o + 1 + j = o + (j + 1) by omega] at this
    · intro hb z hz
      simp only [Rows.uptoBulkAll] at hb
      rcases List.mem_cons.1 hz with rfl | hz
      · exact hs (by omega)
      · exact h3 (by omega) z hz
    · simp only [Rows.uptoBulkAll, List.length_cons]
      omega
theorem open_cats {fuel : Nat} {cs : List Value} {x : DataW H × List MemPlace} (h : DataW.trod enc Tryz.prog W 0 (fun _ => true) true fuel 46 cs = some x) :
    ∃ A c l, cs = [.slice A (List.length l) c] ∧ RdC W A c l ∧ (Rows.uptoBulk x.1 ≤ 1048576 → smC l) := by
  rcases DataW.trod_slice Tryz.underlying46 h with ⟨rfl, rfl⟩ | ⟨ad, len, cap, elems, rest, n, rfl, rfl, rfl, _, hl, hm, hlen, hel, _, _⟩
  · exact ⟨none, 0, [], rfl, RdC.nil _, fun _ => ⟨by decide, fun x hx => by cases hx⟩⟩
  · have each : ∀ j y, (elems.map (·.1))[j]? = some y → ElemC W ad (0 + j) y := by
      intro j y hy
      rw [List.getElem?_map] at hy
      obtain ⟨z, hz, rfl⟩ := Option.map_eq_some_iff.1 hy
      have hj : j < len := by have := (List.getElem?_eq_some_iff.1 hz).1; omega
      have hb := hel j hj
      rw [hz, cells_cat, Option.bind_eq_some_iff] at hb
      obtain ⟨c, hc, hd⟩ := hb
      obtain ⟨_, hc6, hcell⟩ := World.cells?_some hc
      obtain ⟨xs, m, rfl, rfl, _, hxs, hf⟩ := DataW.trod_struct Tryz.underlying37 hd
      have f0 := hf 0 _ rfl
      have f1 := hf 1 _ rfl
      have f2 := hf 2 _ rfl
      have f3 := hf 3 _ rfl
      have f4 := hf 4 _ rfl
      have f5 := hf 5 _ rfl
      simp only [List.getElem_toArray, List.getElem_cons_zero, List.getElem_cons_succ, cells_strs] at f0
      simp only [List.getElem_toArray, List.getElem_cons_zero, List.getElem_cons_succ, cells_bool] at f1
      simp only [List.getElem_toArray, List.getElem_cons_zero, List.getElem_cons_succ, cells_int64] at f2
      simp only [List.getElem_toArray, List.getElem_cons_zero, List.getElem_cons_succ, cells_int] at f3
      simp only [List.getElem_toArray, List.getElem_cons_zero, List.getElem_cons_succ, cells_levs] at f4
      simp only [List.getElem_toArray, List.getElem_cons_zero, List.getElem_cons_succ, cells_strs] at f5
      obtain ⟨v, A, cc, rfl, hR, hs⟩ := open_cat6 m xs c hxs hc6 f0 f1 f2 f3 f4 f5
      refine ⟨v, ⟨[.string (bs v.n), .bool v.cr, .int .i64 v.w, .int .i64 v.b, .slice A v.ch.length cc, .string (bs v.s)], rfl, ?_, fun q u hu => ?_⟩, ?_, ?_⟩
      · have := k37_mk W v.of (A4 := A) (c4 := cc) (by simpa [Cat.of] using hR.2) (by simpa [Cat.of] using hR.1)
        simpa [Cat.of] using this
      · have hi : q < 6 := by have := (List.getElem?_eq_some_iff.1 hu).1; simpa using this
        rw [Nat.zero_add, ← hu, ← hcell q hi, Go.Deep.add_add]
      · intro hbk
        exact hs (by simp only [Rows.uptoBulk] at hbk; omega)
      · simp only [Rows.uptoBulk]
        omega
    obtain ⟨l, h1, h2, h3, h4⟩ := gatherC (elems.map (·.1)) 0 each
    have h1' : l.length = len := by rw [h1, List.length_map, hlen]
    refine ⟨some ad, cap, l, by rw [h1'], ⟨⟨by simp, by rw [h1']; unfold maxLen at hm; omega, fun _ => ⟨ad, rfl, fun j p hp => ?_⟩⟩, by omega⟩, ?_⟩
    · have := h2 j p hp
      rwa [Nat.zero_add] at this
    · intro hb
      simp only [Rows.uptoBulk] at hb
      exact ⟨by omega, h3 (by omega)⟩
end
end Go.Proofs.YthngelbaheankaaGreatDoor.Tpl
namespace Go.Proofs.YthngelbaheankaaGreatDoor.Tpl
open Go.RowKit
theorem gErr : Tryz.prog.globalNamed "bellman/tree.errPair" = some 2 := by kernel_rfl
theorem tErr : (Tryz.prog.globals[2]?).map (·.type) = some 80 := by kernel_rfl
theorem starErr : "*" ++ "errors.errorString" = "*errors.errorString" := by decide
theorem rowErr (u : TypeId) (h : Tryz.prog.typeName? 3 u = some "*errors.errorString") : u = 305 :=
  typeName_ptr_named (nm := "errors.errorString") (by rw [starErr]; kernel_rfl) (by kernel_rfl) (by decide) u (by rw [starErr]; exact h)
theorem glob_of_sentinel {W : World} {r : List (String × DataW Unit)} (hW : W.ShapedOpen Tryz.prog) (h : laidMet Tryz.prog (("bellman/tree.errPair", Rows.laid_bellman_tree_errPair) :: r) W) : Glob W := by
  refine ⟨cell_of_shapedOpen_int (g := 5) (zero := #[.int .i64 0]) (t := 3) hW (of_decide_eq_true (by kernel_rfl)) (by kernel_rfl) rfl (by kernel_rfl) (by kernel_rfl) Tryz.underlying3, ?_⟩
  obtain ⟨a, s, hv, _⟩ := laid_sentinel (n := "bellman/tree.errPair") (nm := "*errors.errorString") h gErr tErr Tryz.underlying80 rowErr Tryz.underlying305 Tryz.underlying323 rfl rfl Tryz.underlying9 (by kernel_rfl) (by kernel_rfl)
  exact ⟨a, by simpa using World.var?_cell gErr hv 0⟩
end Go.Proofs.YthngelbaheankaaGreatDoor.Tpl
namespace Go.Proofs.YthngelbaheankaaGreatDoor.Tpl
open Go.RowKit Go.Proofs.YthngelbaheankaaGreatDoorW.PrintWords
def chainLaid : List (String × DataW Unit) := [("unicode/utf8.acceptRanges", Rows.laid_unicode_utf8_acceptRanges), ("errors.errorType", Rows.laid_errors_errorType), ("bellman/esc.names", Rows.laid_bellman_esc_names), ("bellman/tree.errPair", Rows.laid_bellman_tree_errPair), ("bellman/chain.asked", Rows.laid_bellman_chain_asked), ("unicode/utf8.first", Rows.laid_unicode_utf8_first)]
def chainPlain : List (String × DataW Unit) := [("unicode/utf8.acceptRanges", Rows.laid_unicode_utf8_acceptRanges), ("bellman/esc.names", Rows.laid_bellman_esc_names), ("bellman/tree.errPair", Rows.laid_bellman_tree_errPair), ("bellman/chain.asked", Rows.laid_bellman_chain_asked), ("unicode/utf8.first", Rows.laid_unicode_utf8_first)]
theorem gTypC : Tryz.prog.globalNamed "errors.errorType" = some 1 := by kernel_rfl
theorem rtNC : (Tryz.prog.cutTypes.find? (·.1 == "internal/reflectlite.rtype")).map (·.2) = some 211 := by kernel_rfl
theorem errRowC : ((List.range Tryz.prog.types.size).filter fun t => Tryz.prog.rowNamed t [101, 114, 114, 111, 114]) = [80] := by kernel_rfl
theorem gNamC : Tryz.prog.globalNamed "bellman/esc.names" = some 4 := by kernel_rfl
theorem gAskC : Tryz.prog.globalNamed "bellman/chain.asked" = some 3 := by kernel_rfl
theorem tNamC : (Tryz.prog.globals[4]?).map (·.type) = some 252 := by kernel_rfl
theorem tAskC : (Tryz.prog.globals[3]?).map (·.type) = some 224 := by kernel_rfl
theorem cellsStrC : Tryz.prog.cellsOf 9 = 1 := by kernel_rfl
def namCL : List (List UInt8) := [[], [112, 117, 115, 104], [101, 109, 97, 105, 108], [115, 109, 115]]
theorem namC_cells {W : World} {fuel : Nat} {cs : Array Value} {q : List MemPlace}
    (hd : DataW.trod (fun _ => ()) Tryz.prog W 0 (fun _ => true) false fuel 252 cs.toList = some (Rows.laid_bellman_esc_names, q)) :
    ∀ i : Nat, i < 4 → cs[i]? = some (.string ⟨(namCL.getD i []).toArray⟩) := by
  obtain ⟨xs, m1, rfl, hx1, hlen, hn3, hel⟩ := DataW.trod_array Tryz.underlying252 hd
  simp only [Prod.mk.injEq, Rows.laid_bellman_esc_names, DataW.agg.injEq] at hx1
  obtain ⟨hx1, _⟩ := hx1
  intro i hi
  have hi' := hel i hi
  have hxi : xs[i]? = some xs[i] := List.getElem?_eq_getElem (by omega)
  rw [hxi, cellsStrC, Nat.mul_one] at hi'
  obtain ⟨k, e1, e2, _⟩ := DataW.trod_string Tryz.underlying9 hi'
  have hm : (xs.map (·.1))[i]? = some (.lit (.string k.data.toList)) := by rw [List.getElem?_map, hxi, e2]; rfl
  rw [← hx1] at hm
  have hk : k.data.toList = namCL.getD i [] := by
    have : ∀ j : Nat, j < 4 → ([.lit (.string []), .lit (.string [112, 117, 115, 104]), .lit (.string [101, 109, 97, 105, 108]), .lit (.string [115, 109, 115])] : List (DataW Unit))[j]? = some (.lit (.string (namCL.getD j []))) := by
      intro j hj
      match j, hj with
      | 0, _ => rfl | 1, _ => rfl | 2, _ => rfl | 3, _ => rfl
    rw [this i hi] at hm
    simp only [Option.some.injEq, DataW.lit.injEq, Lit.string.injEq] at hm
    exact hm.symm
  have hk2 : k = ⟨(namCL.getD i []).toArray⟩ := by rw [← hk]
  subst hk2
  have hh := congrArg List.head? e1
  rw [List.head?_take, if_neg (by decide), List.head?_drop] at hh
  simpa using hh
def askCL : List (List UInt8) := [[117, 115, 101, 114], [99, 111, 117, 110, 116], [105, 116, 101, 109, 115], [114, 97, 110, 107], [99, 97, 116, 101, 103, 111, 114, 121]]
theorem askC_cells {W : World} {fuel : Nat} {cs : Array Value} {q : List MemPlace}
    (hd : DataW.trod (fun _ => ()) Tryz.prog W 0 (fun _ => true) false fuel 224 cs.toList = some (Rows.laid_bellman_chain_asked, q)) :
    ∀ i : Nat, i < 5 → cs[i]? = some (.string ⟨(askCL.getD i []).toArray⟩) := by
  obtain ⟨xs, m1, rfl, hx1, hlen, hn3, hel⟩ := DataW.trod_array Tryz.underlying224 hd
  simp only [Prod.mk.injEq, Rows.laid_bellman_chain_asked, DataW.agg.injEq] at hx1
  obtain ⟨hx1, _⟩ := hx1
  intro i hi
  have hi' := hel i hi
  have hxi : xs[i]? = some xs[i] := List.getElem?_eq_getElem (by omega)
  rw [hxi, cellsStrC, Nat.mul_one] at hi'
  obtain ⟨k, e1, e2, _⟩ := DataW.trod_string Tryz.underlying9 hi'
  have hm : (xs.map (·.1))[i]? = some (.lit (.string k.data.toList)) := by rw [List.getElem?_map, hxi, e2]; rfl
  rw [← hx1] at hm
  have hk : k.data.toList = askCL.getD i [] := by
    have : ∀ j : Nat, j < 5 → ([.lit (.string [117, 115, 101, 114]), .lit (.string [99, 111, 117, 110, 116]), .lit (.string [105, 116, 101, 109, 115]), .lit (.string [114, 97, 110, 107]), .lit (.string [99, 97, 116, 101, 103, 111, 114, 121])] : List (DataW Unit))[j]? = some (.lit (.string (askCL.getD j []))) := by
      intro j hj
      match j, hj with
      | 0, _ => rfl | 1, _ => rfl | 2, _ => rfl | 3, _ => rfl | 4, _ => rfl
    rw [this i hi] at hm
    simp only [Option.some.injEq, DataW.lit.injEq, Lit.string.injEq] at hm
    exact hm.symm
  have hk2 : k = ⟨(askCL.getD i []).toArray⟩ := by rw [← hk]
  subst hk2
  have hh := congrArg List.head? e1
  rw [List.head?_take, if_neg (by decide), List.head?_drop] at hh
  simpa using hh
theorem nam_of_laid {W : World} {r : List (String × DataW Unit)} (h : laidMet Tryz.prog (("bellman/esc.names", Rows.laid_bellman_esc_names) :: r) W) : GNam W := by
  obtain ⟨ps, ⟨g0, t0, cs0, f0, p0, q0, hg0, ht0, hv0, hd0, _, _⟩, _⟩ := h
  obtain rfl := Option.some.inj (gNamC.symm.trans hg0)
  obtain rfl := Option.some.inj (tNamC.symm.trans ht0)
  intro i hi
  rw [World.var?_cell hg0 hv0 i]
  exact ⟨_, namC_cells hd0 i hi⟩
theorem ask_of_laid {W : World} {r : List (String × DataW Unit)} (h : laidMet Tryz.prog (("bellman/chain.asked", Rows.laid_bellman_chain_asked) :: r) W) : GAsk W := by
  obtain ⟨ps, ⟨g0, t0, cs0, f0, p0, q0, hg0, ht0, hv0, hd0, _, _⟩, _⟩ := h
  obtain rfl := Option.some.inj (gAskC.symm.trans hg0)
  obtain rfl := Option.some.inj (tAskC.symm.trans ht0)
  have hc : ∀ i : Nat, i < 5 → W.cell? ⟨3, i, none⟩ = some (.string ⟨(askCL.getD i []).toArray⟩) := fun i hi => by
    rw [World.var?_cell hg0 hv0 i]
    exact askC_cells hd0 i hi
  refine ⟨⟨rfl, by decide, fun _ => ⟨_, rfl, fun j p hj => ?_⟩⟩, by decide⟩
  have hj5 : j < 5 := by have := (List.getElem?_eq_some_iff.1 hj).1; simpa [askedS] using this
  have hp : p = ⟨(askCL.getD j []).toArray⟩ := by
    match j, hj5, hj with
    | 0, _, hj => exact (Option.some.inj hj).symm
    | 1, _, hj => exact (Option.some.inj hj).symm
    | 2, _, hj => exact (Option.some.inj hj).symm
    | 3, _, hj => exact (Option.some.inj hj).symm
    | 4, _, hj => exact (Option.some.inj hj).symm
  subst hp
  refine ⟨[.string ⟨(askCL.getD j []).toArray⟩], rfl, rfl, fun i u hu => ?_⟩
  have hi : i = 0 := by have := (List.getElem?_eq_some_iff.1 hu).1; simpa using this
  subst hi
  obtain rfl := Option.some.inj hu
  have e : (⟨3, 0, none⟩ : Addr).add (j * Kd.sz Kd.string + 0) = ⟨3, j, none⟩ := by rw [Addr.add_lit]; show (⟨_, 0 + (j * 1 + 0), none⟩ : Addr) = _; simp
  rw [e]
  exact hc j hj5
theorem globC_of_laid {W : World} (hW : W.ShapedOpen Tryz.prog) (h : laidMetH Tryz.prog chainLaid W) : GlobC W := by
  have h' : laidMet Tryz.prog chainPlain W ∧ handlesMet Tryz.prog [("errors.errorType", Rows.laid_errors_errorType)] W := h
  obtain ⟨hp, hh⟩ := h'
  have t1 := laidMet.tail hp
  have t2 := laidMet.tail t1
  have t3 := laidMet.tail t2
  refine ⟨glob_of_sentinel hW t2, ?_, nam_of_laid t1, ask_of_laid t3⟩
  obtain ⟨name, u, ty, e1, e2, e3, e4, e5⟩ := hh _ (List.mem_singleton.2 rfl)
  have en : name = [101, 114, 114, 111, 114] := (Option.some.inj e1).symm
  subst en
  obtain rfl := Option.some.inj (rtNC.symm.trans e2)
  have hm : ty ∈ (List.range Tryz.prog.types.size).filter fun t => Tryz.prog.rowNamed t [101, 114, 114, 111, 114] := List.mem_filter.2 ⟨List.mem_range.2 e3, e4⟩
  rw [errRowC] at hm
  obtain rfl := List.mem_singleton.1 hm
  have hx : typeHandle Tryz.prog 80 = .pointer (some ⟨11, 80, none⟩) := by kernel_rfl
  rw [hx] at e5
  unfold GTyp
  simpa using World.var?_cell gTypC e5 0
noncomputable def chainW0 (os : Os) : World :=
  let w0 := World.holding Tryz.prog os ⟨#[], #[], []⟩
  { w0 with heap := w0.heap.modify 1 fun
      | .cells _ t frozen => .cells #[.iface 211 (.agg #[.pointer (some ⟨11, 80, none⟩)])] t frozen
      | o => o }
noncomputable def chainW (os : Os) : World := (chainW0 os).layVars Tryz.prog chainPlain
theorem chainW_os (os : Os) : (chainW os).os = os := (World.layVars_os _ _ _).trans rfl
theorem chainW_plain (os : Os) (args : Array Value) : laidMet Tryz.prog chainPlain ((chainW os).forCall (fun _ _ => 0) ⟨#[], args, []⟩).memory := by
  have e1 : (chainPlain.filter fun x => (chainPlain.map (·.1)).contains x.1) = chainPlain := List.filter_eq_self.2 fun x hx => List.contains_iff_mem.2 (List.mem_map.2 ⟨x, hx, rfl⟩)
  have e2 : (chainPlain.filter fun x => !(chainPlain.map (·.1)).contains x.1) = [] := List.filter_eq_nil_iff.2 fun x hx => by rw [List.contains_iff_mem.2 (List.mem_map.2 ⟨x, hx, rfl⟩)]; simp
  have h : laidMet Tryz.prog chainPlain (chainW os) := laidMet_layVars (w0 := chainW0 os) (chainPlain.map (·.1)) [] (by rw [e1]; rfl) (by rw [e1]; kernel_rfl) (by rw [e1]; kernel_rfl) (by rw [e2]; exact LaidIn.none)
  exact h.of_heap (by simp [World.memory, World.forCall, Input.heap])
theorem chainW_met (os : Os) (args : Array Value) : laidMetH Tryz.prog chainLaid ((chainW os).forCall (fun _ _ => 0) ⟨#[], args, []⟩).memory :=
  laidMetH_of_parts (chainW_plain os args) (by kernel_rfl)
end Go.Proofs.YthngelbaheankaaGreatDoor.Tpl
