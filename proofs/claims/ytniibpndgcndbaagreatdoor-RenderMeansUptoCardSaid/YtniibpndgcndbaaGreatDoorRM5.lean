/- Part 5 of the proof (texts of this claim, merged in build order; what the claim does not need has been left out). -/
import Derived.Deep.Slices
import Derived.Test.YtniibpndgcndbaaGreatDoorRM4
import Derived.KernelRfl
import Derived.LaidHandle
import Derived.LaidMore
import Derived.Lay
import Derived.Lib.LaidTab
import Derived.OpenShut
import Derived.Shelf.Vars
import Derived.SliceStrings
import Derived.Stop.LaidErr
import Derived.Test.YtniibpndgcndbaaGreatDoorRows
set_option linter.unusedVariables false
set_option linter.unusedSimpArgs false
namespace Go.Proofs.YtniibpndgcndbaaGreatDoor.Tpl
open Go.RowKit Go.Proofs Go.Proofs.YtniibpndgcndbaaGreatDoor.PB Go.Proofs.YtniibpndgcndbaaGreatDoor.Short Go.Proofs.YtniibpndgcndbaaGreatDoorW.PrintWords Go.Proofs.YtniibpndgcndbaaGreatDoorW.PrintLast Go.Proofs.YtniibpndgcndbaaGreatDoorW.PrintMore
theorem blk_new_at {w : World} {o : Obj} {n : Nat} (h : n = w.heap.size) : (w.alloc o).heap[n]? = some o := by subst h; exact blk_new w o
abbrev oL : Obj := .cells #[.int .u8 2, .string ⟨#[]⟩, .int .i64 1, .slice none 0 0, .slice none 0 0, .int .u8 1, .string ⟨#[60]⟩, .int .i64 0, .slice none 0 0, .slice none 0 0] 43 (0, 0)
abbrev oV (s : Nat) : Obj := .cells #[.int .u8 4, .string ⟨#[]⟩, .int .i64 0, .slice (some ⟨s, 0, none⟩) 2 2, .slice none 0 0, .int .u8 3, .string ⟨#[]⟩, .int .i64 0, .slice none 0 0, .slice none 0 0] 43 (0, 0)
abbrev o1 (s : Nat) : Obj := .cells #[.int .u8 4, .string ⟨#[]⟩, .int .i64 0, .slice (some ⟨s, 0, none⟩) 2 2, .slice none 0 0] 43 (0, 0)
abbrev o2 (s : Nat) : Obj := .cells #[.int .u8 5, .string ⟨#[]⟩, .int .i64 0, .slice (some ⟨s + 1 + 1 + 1, 0, none⟩) 2 2, .slice (some ⟨s + 1 + 1, 0, none⟩) 2 2] 43 (0, 0)
theorem rdV_nil (W : World) : Vals.Rd W none 0 .nil := ⟨Kd.C_nil _ _, Nat.le_refl _⟩
theorem rdS_nil (W : World) : RdS W none 0 [] := ⟨Kd.C_nil _ _, Nat.le_refl _⟩
theorem rd_L {W : World} {s : Nat} (h : W.heap[s]? = some oL) : Vals.Rd W (some ⟨s, 0, none⟩) 2 itL := rd_two (i := .nil) (m := []) (i' := .nil) (m' := []) (t := []) (t' := [60]) h (rdV_nil W) (rdS_nil W) (rdV_nil W) (rdS_nil W)
theorem rd_V {W : World} {s s3 : Nat} (h : W.heap[s]? = some oL) (h3 : W.heap[s3]? = some (oV s)) : Vals.Rd W (some ⟨s3, 0, none⟩) 2 itV := rd_two (i := itL) (m := []) (i' := .nil) (m' := []) (t := []) (t' := []) h3 (rd_L h) (rdS_nil W) (rdV_nil W) (rdS_nil W)
theorem rd_N {W : World} {s : Nat} (h : W.heap[s]? = some (.cells #[.string ⟨#[108]⟩, .string ⟨#[110]⟩] 9 (0, 0))) : RdS W (some ⟨s, 0, none⟩) 2 [[108], [110]] := by
  refine ⟨⟨rfl, by simp, fun _ => ⟨_, rfl, fun j x hx => ?_⟩⟩, Nat.le_refl _⟩
  match j, hx with
  | 0, hx =>
    simp at hx
    subst hx
    refine ⟨[.string (bs [108])], rfl, rfl, fun i u hu => ?_⟩
    have hi : i = 0 := by have := (List.getElem?_eq_some_iff.1 hu).1; simp at this; omega
    subst hi
    simp at hu
    subst hu
    exact (blk_cell h 0).trans rfl
  | 1, hx =>
    simp at hx
    subst hx
    refine ⟨[.string (bs [110])], rfl, rfl, fun i u hu => ?_⟩
    have hi : i = 0 := by have := (List.getElem?_eq_some_iff.1 hu).1; simp at this; omega
    subst hi
    simp at hu
    subst hu
    exact (blk_cell h 1).trans rfl
  | j + 2, hx => simp at hx
structure LvIn (w : World) (s : Nat) (W : World) : Prop where
  bel : Below w.heap.size w W
  bL : W.heap[s]? = some oL
  b1 : W.heap[s + 1]? = some (o1 s)
  bN : W.heap[s + 1 + 1]? = some (.cells #[.string ⟨#[108]⟩, .string ⟨#[110]⟩] 9 (0, 0))
  bV : W.heap[s + 1 + 1 + 1]? = some (oV s)
  b2 : W.heap[s + 1 + 1 + 1 + 1]? = some (o2 s)
theorem LvIn.below {w : World} {s : Nat} {W W1 : World} (h : LvIn w s W) (hb : Below W.heap.size W W1) : LvIn w s W1 := ⟨below_step h.bel hb, blk_below h.bL hb, blk_below h.b1 hb, blk_below h.bN hb, blk_below h.bV hb, blk_below h.b2 hb⟩
theorem LvIn.rd {w : World} {s : Nat} {W : World} (h : LvIn w s W) : RdV W valV (some ⟨s + 1 + 1 + 1, 0, none⟩) 2 (some ⟨s + 1 + 1, 0, none⟩) 2 := ⟨rd_V h.bL h.bV, rd_N h.bN⟩
abbrev oI : Obj := .cells #[.int .u8 2, .string ⟨#[]⟩, .int .i64 1, .slice none 0 0, .slice none 0 0] 43 (0, 0)
abbrev aV (s : Nat) : Value := .agg #[.int .u8 5, .string ⟨#[]⟩, .int .i64 0, .slice (some ⟨s + 1 + 1 + 1, 0, none⟩) 2 2, .slice (some ⟨s + 1 + 1, 0, none⟩) 2 2]
theorem lv_means {w W : World} {s : Nat} (h : LvIn w s W) (t : S) (ht : t.length ≤ 1048576) (x : Val) (hm : MeansP [t] valV (.cons 2 [] 1 .nil [] .nil) = .ok x) (V : World) (n m : Nat) (hb : Below W.heap.size W V) (hn : V.heap[n]? = some (litB t)) (ho : V.heap[m]? = some oI) :
    Calls Tryz.prog 31 #[.slice (some ⟨n, 0, none⟩) 1 1, aV s, .slice (some ⟨m, 0, none⟩) 1 1] V fun e w' => Below V.heap.size V w' ∧ ∃ A3 c3 A4 c4, e = .returned (.tuple #[vAgg x A3 c3 A4 c4, .int .i64 0]) := by
  have hI := h.below hb
  have h1 := means_any [t] (some ⟨n, 0, none⟩) 1 valV _ _ _ _ (.cons 2 [] 1 .nil [] .nil) (some ⟨m, 0, none⟩) 1 V (lit_at hn) (by simp) valV_fit hI.rd (by simp [Vals.sm, Vals.len]) (by decide) (by decide) (rd_one (t := []) (i := .nil) (m := []) ho (rdV_nil V) (rdS_nil V))
  rw [hm] at h1
  refine h1.mono ?_
  rintro e w' ⟨hb, A3, c3, A4, c4, rfl, _⟩
  exact ⟨hb, A3, c3, A4, c4, rfl⟩
def LvMid (w : World) (s : Nat) (W : World) (k n : Int) (s9 s10 : Value) (wx : World) : Prop := ∃ bx, s9 = .pointer (some ⟨bx, 0, none⟩) ∧ s10 = .int .i64 0 ∧ wx.cell? ⟨bx, 0, none⟩ = some (.int .u8 k) ∧ wx.cell? ⟨bx, 2, none⟩ = some (.int .i64 n) ∧ LvIn w s wx ∧ Below W.heap.size W wx
theorem lv_new {w : World} {s : Nat} {k n : Int} {W w2 : World} {vt v3 v4 : Value} (h : LvIn w s W) (hb : Below W.heap.size W w2) : LvMid w s W k n (.pointer (some ⟨w2.heap.size, 0, none⟩)) (.int .i64 0) (w2.alloc (.cells #[.int .u8 k, vt, .int .i64 n, v3, v4] 43)) :=
  ⟨_, rfl, rfl, (blk_cell (blk_new w2 _) 0).trans rfl, (blk_cell (blk_new w2 _) 2).trans rfl, (h.below hb).below (below_alloc (Below.refl _ _) _), below_alloc hb _⟩
theorem lv_old {w : World} {s : Nat} {k n : Int} {W V w2 : World} {vt v3 v4 : Value} {b : Nat} (h : LvIn w s W) (hV : Below W.heap.size W V) (hb : Below V.heap.size V w2) (hz : V.heap[b]? = some zObj) (hle : W.heap.size ≤ b) : LvMid w s W k n (.pointer (some ⟨b, 0, none⟩)) (.int .i64 0) (put5 w2 b 0 (.int .u8 k) vt (.int .i64 n) v3 v4) :=
  ⟨_, rfl, rfl, (blk_cell (put5_blk (blk_below hz hb)) 0).trans rfl, (blk_cell (put5_blk (blk_below hz hb)) 2).trans rfl, h.below (put5_below (below_step hV hb) hle), put5_below (below_step hV hb) hle⟩
set_option maxHeartbeats 4000000 in
set_option maxRecDepth 100000 in
theorem lives14_any (w : World) (hG : GlobR w) : Calls Tryz.prog 30 #[] w fun e w' => e = .returned (.bool true) ∧ Below w.heap.size w w' := by
  have HG := Aside0.mk hG
  clear hG
  go_enter Tryz.func30, Tryz.ntmps30
  go_upto_region 3 with (fail)
  have hI : LvIn w w.heap.size (((((w.alloc oL).alloc (o1 w.heap.size)).alloc (.cells #[.string ⟨#[108]⟩, .string ⟨#[110]⟩] 9)).alloc (oV w.heap.size)).alloc (o2 w.heap.size)) :=
    ⟨below_alloc (below_alloc (below_alloc (below_alloc (below_alloc (Below.refl _ _) _) _) _) _) _, by repeat (first | (with_reducible refine blk_drew ?_) | exact blk_new_at (by simp only [World.size_alloc, World.size_drew]) | (with_reducible refine blk_alloc ?_ _)), by repeat (first | (with_reducible refine blk_drew ?_) | exact blk_new_at (by simp only [World.size_alloc, World.size_drew]) | (with_reducible refine blk_alloc ?_ _)), by repeat (first | (with_reducible refine blk_drew ?_) | exact blk_new_at (by simp only [World.size_alloc, World.size_drew]) | (with_reducible refine blk_alloc ?_ _)), by repeat (first | (with_reducible refine blk_drew ?_) | exact blk_new_at (by simp only [World.size_alloc, World.size_drew]) | (with_reducible refine blk_alloc ?_ _)), by repeat (first | (with_reducible refine blk_drew ?_) | exact blk_new_at (by simp only [World.size_alloc, World.size_drew]) | (with_reducible refine blk_alloc ?_ _))⟩
  obtain ⟨s, hs⟩ : ∃ s, w.heap.size = s := ⟨_, rfl⟩
  rw [hs] at hI ⊢
  generalize (((((w.alloc oL).alloc (o1 s)).alloc (.cells #[.string ⟨#[108]⟩, .string ⟨#[110]⟩] 9)).alloc (oV s)).alloc (o2 s)) = W at hI ⊢
  have HI := Aside0.mk hI
  obtain ⟨y0, y1, y2, y3, y4, -⟩ := cells_5 hI.b2
  clear hI
  have hT := text_any srcA (by decide) poA valV _ _ _ _ 2 W (HG.out.below HI.out.bel) valV_fit HI.out.rd
  rw [textA] at hT
  go_wp2_with fail
  refine hT.mono ?_
  rintro e W1 ⟨hb, rfl⟩
  have HI1 := Aside0.mk (HI.out.below hb)
  clear HI hb hT y0 y1 y2 y3 y4
  obtain ⟨y0, y1, y2, y3, y4, -⟩ := cells_5 HI1.out.b2
  have hT := text_any srcM (by decide) poM valV _ _ _ _ 2 W1 (HG.out.below HI1.out.bel) valV_fit HI1.out.rd
  rw [textM] at hT
  go_wp2_with fail
  refine hT.mono ?_
  rintro e W2 ⟨hb, rfl⟩
  have HI2 := Aside0.mk (HI1.out.below hb)
  clear HI1 hb hT y0 y1 y2 y3 y4
  obtain ⟨y0, y1, y2, y3, y4, -⟩ := cells_5 HI2.out.b2
  have hT := text_any srcE (by decide) poE valV _ _ _ _ 2 W2 (HG.out.below HI2.out.bel) valV_fit HI2.out.rd
  rw [textE] at hT
  go_wp2_with fail
  refine hT.mono ?_
  rintro e W3 ⟨hb, rfl⟩
  have HI3 := Aside0.mk (HI2.out.below hb)
  clear HI2 hb hT y0 y1 y2 y3 y4
  go_upto_region 6 with (fail)
  have hM : ∀ (V : World) (n m : Nat), Below W3.heap.size W3 V → V.heap[n]? = some (.cells #[.string ⟨#[110]⟩] 9 (0, 0)) → V.heap[m]? = some oI → Calls Tryz.prog 31 #[.slice (some ⟨n, 0, none⟩) 1 1, aV s, .slice (some ⟨m, 0, none⟩) 1 1] V fun e w' => Below V.heap.size V w' ∧ ∃ A3 c3 A4 c4, e = .returned (.tuple #[.agg #[.int .u8 3, .string ⟨#[]⟩, .int .i64 0, .slice A3 0 c3, .slice A4 0 c4], .int .i64 0]) := lv_means HI3.out [110] (by decide) itB meansN
  have KP : Aside0 (∀ w' : World, Below W3.heap.size W3 w' → w'.cell? ⟨s + 1 + 1 + 1 + 1, 0, none⟩ = some (.int .u8 5) ∧ w'.cell? ⟨s + 1 + 1 + 1 + 1, 1, none⟩ = some (.string ⟨#[]⟩) ∧ w'.cell? ⟨s + 1 + 1 + 1 + 1, 2, none⟩ = some (.int .i64 0) ∧ w'.cell? ⟨s + 1 + 1 + 1 + 1, 3, none⟩ = some (.slice (some ⟨s + 1 + 1 + 1, 0, none⟩) 2 2) ∧ w'.cell? ⟨s + 1 + 1 + 1 + 1, 4, none⟩ = some (.slice (some ⟨s + 1 + 1, 0, none⟩) 2 2) ∧ w'.cell? ⟨s + 1, 3, none⟩ = some (.slice (some ⟨s, 0, none⟩) 2 2) ∧ w'.cell? ⟨s, 0, none⟩ = some (.int .u8 2) ∧ w'.cell? ⟨s, 1, none⟩ = some (.string ⟨#[]⟩) ∧ w'.cell? ⟨s, 2, none⟩ = some (.int .i64 1) ∧ w'.cell? ⟨s, 3, none⟩ = some (.slice none 0 0) ∧ w'.cell? ⟨s, 4, none⟩ = some (.slice none 0 0)) :=
    ⟨fun w' hb => ⟨(blk_cell (HI3.out.below hb).b2 0).trans rfl, (blk_cell (HI3.out.below hb).b2 1).trans rfl, (blk_cell (HI3.out.below hb).b2 2).trans rfl, (blk_cell (HI3.out.below hb).b2 3).trans rfl, (blk_cell (HI3.out.below hb).b2 4).trans rfl, (blk_cell (HI3.out.below hb).b1 3).trans rfl, (blk_cell (HI3.out.below hb).bL 0).trans rfl, (blk_cell (HI3.out.below hb).bL 1).trans rfl, (blk_cell (HI3.out.below hb).bL 2).trans rfl, (blk_cell (HI3.out.below hb).bL 3).trans rfl, (blk_cell (HI3.out.below hb).bL 4).trans rfl⟩⟩
  obtain ⟨y0, y1, y2, y3, y4, y5, x0, x1, x2, x3, x4⟩ := KP.out W3 (Below.refl _ _)
  have VLI : Aside0 (Below W3.heap.size W3 ((W3.alloc (.cells #[.string ⟨#[110]⟩] 9 (0, 0))).alloc oI).drew) := ⟨below_drew (below_alloc (below_alloc (Below.refl _ _) _) _)⟩
  have NLI : Aside0 (((W3.alloc (.cells #[.string ⟨#[110]⟩] 9 (0, 0))).alloc oI).drew.heap[W3.heap.size]? = some (.cells #[.string ⟨#[110]⟩] 9 (0, 0))) := ⟨by refine blk_drew ?_; repeat (first | (with_reducible refine blk_drew ?_) | exact blk_new_at (by simp only [World.size_alloc, World.size_drew]) | (with_reducible refine blk_alloc ?_ _))⟩
  have MLI : Aside0 (((W3.alloc (.cells #[.string ⟨#[110]⟩] 9 (0, 0))).alloc oI).drew.heap[W3.heap.size + 1]? = some oI) := ⟨by refine blk_drew ?_; repeat (first | (with_reducible refine blk_drew ?_) | exact blk_new_at (by simp only [World.size_alloc, World.size_drew]) | (with_reducible refine blk_alloc ?_ _))⟩
  have VIL : Aside0 (Below W3.heap.size W3 ((W3.alloc oI).alloc (.cells #[.string ⟨#[110]⟩] 9 (0, 0))).drew) := ⟨below_drew (below_alloc (below_alloc (Below.refl _ _) _) _)⟩
  have MIL : Aside0 (((W3.alloc oI).alloc (.cells #[.string ⟨#[110]⟩] 9 (0, 0))).drew.heap[W3.heap.size]? = some oI) := ⟨by refine blk_drew ?_; repeat (first | (with_reducible refine blk_drew ?_) | exact blk_new_at (by simp only [World.size_alloc, World.size_drew]) | (with_reducible refine blk_alloc ?_ _))⟩
  have NIL : Aside0 (((W3.alloc oI).alloc (.cells #[.string ⟨#[110]⟩] 9 (0, 0))).drew.heap[W3.heap.size + 1]? = some (.cells #[.string ⟨#[110]⟩] 9 (0, 0))) := ⟨by refine blk_drew ?_; repeat (first | (with_reducible refine blk_drew ?_) | exact blk_new_at (by simp only [World.size_alloc, World.size_drew]) | (with_reducible refine blk_alloc ?_ _))⟩
  have VLIZ : Aside0 (Below W3.heap.size W3 (((W3.alloc (.cells #[.string ⟨#[110]⟩] 9 (0, 0))).alloc oI).alloc zBox).drew) := ⟨below_drew (below_alloc (below_alloc (below_alloc (Below.refl _ _) _) _) _)⟩
  have NLIZ : Aside0 ((((W3.alloc (.cells #[.string ⟨#[110]⟩] 9 (0, 0))).alloc oI).alloc zBox).drew.heap[W3.heap.size]? = some (.cells #[.string ⟨#[110]⟩] 9 (0, 0))) := ⟨by refine blk_drew ?_; repeat (first | (with_reducible refine blk_drew ?_) | exact blk_new_at (by simp only [World.size_alloc, World.size_drew]) | (with_reducible refine blk_alloc ?_ _))⟩
  have MLIZ : Aside0 ((((W3.alloc (.cells #[.string ⟨#[110]⟩] 9 (0, 0))).alloc oI).alloc zBox).drew.heap[W3.heap.size + 1]? = some oI) := ⟨by refine blk_drew ?_; repeat (first | (with_reducible refine blk_drew ?_) | exact blk_new_at (by simp only [World.size_alloc, World.size_drew]) | (with_reducible refine blk_alloc ?_ _))⟩
  have ZLIZ : Aside0 ((((W3.alloc (.cells #[.string ⟨#[110]⟩] 9 (0, 0))).alloc oI).alloc zBox).drew.heap[W3.heap.size + 1 + 1]? = some zObj) := ⟨by refine blk_drew ?_; repeat (first | (with_reducible refine blk_drew ?_) | exact blk_new_at (by simp only [World.size_alloc, World.size_drew]) | (with_reducible refine blk_alloc ?_ _))⟩
  have VLZI : Aside0 (Below W3.heap.size W3 (((W3.alloc (.cells #[.string ⟨#[110]⟩] 9 (0, 0))).alloc zBox).alloc oI).drew) := ⟨below_drew (below_alloc (below_alloc (below_alloc (Below.refl _ _) _) _) _)⟩
  have NLZI : Aside0 ((((W3.alloc (.cells #[.string ⟨#[110]⟩] 9 (0, 0))).alloc zBox).alloc oI).drew.heap[W3.heap.size]? = some (.cells #[.string ⟨#[110]⟩] 9 (0, 0))) := ⟨by refine blk_drew ?_; repeat (first | (with_reducible refine blk_drew ?_) | exact blk_new_at (by simp only [World.size_alloc, World.size_drew]) | (with_reducible refine blk_alloc ?_ _))⟩
  have ZLZI : Aside0 ((((W3.alloc (.cells #[.string ⟨#[110]⟩] 9 (0, 0))).alloc zBox).alloc oI).drew.heap[W3.heap.size + 1]? = some zObj) := ⟨by refine blk_drew ?_; repeat (first | (with_reducible refine blk_drew ?_) | exact blk_new_at (by simp only [World.size_alloc, World.size_drew]) | (with_reducible refine blk_alloc ?_ _))⟩
  have MLZI : Aside0 ((((W3.alloc (.cells #[.string ⟨#[110]⟩] 9 (0, 0))).alloc zBox).alloc oI).drew.heap[W3.heap.size + 1 + 1]? = some oI) := ⟨by refine blk_drew ?_; repeat (first | (with_reducible refine blk_drew ?_) | exact blk_new_at (by simp only [World.size_alloc, World.size_drew]) | (with_reducible refine blk_alloc ?_ _))⟩
  have VZLI : Aside0 (Below W3.heap.size W3 (((W3.alloc zBox).alloc (.cells #[.string ⟨#[110]⟩] 9 (0, 0))).alloc oI).drew) := ⟨below_drew (below_alloc (below_alloc (below_alloc (Below.refl _ _) _) _) _)⟩
  have ZZLI : Aside0 ((((W3.alloc zBox).alloc (.cells #[.string ⟨#[110]⟩] 9 (0, 0))).alloc oI).drew.heap[W3.heap.size]? = some zObj) := ⟨by refine blk_drew ?_; repeat (first | (with_reducible refine blk_drew ?_) | exact blk_new_at (by simp only [World.size_alloc, World.size_drew]) | (with_reducible refine blk_alloc ?_ _))⟩
  have NZLI : Aside0 ((((W3.alloc zBox).alloc (.cells #[.string ⟨#[110]⟩] 9 (0, 0))).alloc oI).drew.heap[W3.heap.size + 1]? = some (.cells #[.string ⟨#[110]⟩] 9 (0, 0))) := ⟨by refine blk_drew ?_; repeat (first | (with_reducible refine blk_drew ?_) | exact blk_new_at (by simp only [World.size_alloc, World.size_drew]) | (with_reducible refine blk_alloc ?_ _))⟩
  have MZLI : Aside0 ((((W3.alloc zBox).alloc (.cells #[.string ⟨#[110]⟩] 9 (0, 0))).alloc oI).drew.heap[W3.heap.size + 1 + 1]? = some oI) := ⟨by refine blk_drew ?_; repeat (first | (with_reducible refine blk_drew ?_) | exact blk_new_at (by simp only [World.size_alloc, World.size_drew]) | (with_reducible refine blk_alloc ?_ _))⟩
  have VILZ : Aside0 (Below W3.heap.size W3 (((W3.alloc oI).alloc (.cells #[.string ⟨#[110]⟩] 9 (0, 0))).alloc zBox).drew) := ⟨below_drew (below_alloc (below_alloc (below_alloc (Below.refl _ _) _) _) _)⟩
  have MILZ : Aside0 ((((W3.alloc oI).alloc (.cells #[.string ⟨#[110]⟩] 9 (0, 0))).alloc zBox).drew.heap[W3.heap.size]? = some oI) := ⟨by refine blk_drew ?_; repeat (first | (with_reducible refine blk_drew ?_) | exact blk_new_at (by simp only [World.size_alloc, World.size_drew]) | (with_reducible refine blk_alloc ?_ _))⟩
  have NILZ : Aside0 ((((W3.alloc oI).alloc (.cells #[.string ⟨#[110]⟩] 9 (0, 0))).alloc zBox).drew.heap[W3.heap.size + 1]? = some (.cells #[.string ⟨#[110]⟩] 9 (0, 0))) := ⟨by refine blk_drew ?_; repeat (first | (with_reducible refine blk_drew ?_) | exact blk_new_at (by simp only [World.size_alloc, World.size_drew]) | (with_reducible refine blk_alloc ?_ _))⟩
  have ZILZ : Aside0 ((((W3.alloc oI).alloc (.cells #[.string ⟨#[110]⟩] 9 (0, 0))).alloc zBox).drew.heap[W3.heap.size + 1 + 1]? = some zObj) := ⟨by refine blk_drew ?_; repeat (first | (with_reducible refine blk_drew ?_) | exact blk_new_at (by simp only [World.size_alloc, World.size_drew]) | (with_reducible refine blk_alloc ?_ _))⟩
  have VIZL : Aside0 (Below W3.heap.size W3 (((W3.alloc oI).alloc zBox).alloc (.cells #[.string ⟨#[110]⟩] 9 (0, 0))).drew) := ⟨below_drew (below_alloc (below_alloc (below_alloc (Below.refl _ _) _) _) _)⟩
  have MIZL : Aside0 ((((W3.alloc oI).alloc zBox).alloc (.cells #[.string ⟨#[110]⟩] 9 (0, 0))).drew.heap[W3.heap.size]? = some oI) := ⟨by refine blk_drew ?_; repeat (first | (with_reducible refine blk_drew ?_) | exact blk_new_at (by simp only [World.size_alloc, World.size_drew]) | (with_reducible refine blk_alloc ?_ _))⟩
  have ZIZL : Aside0 ((((W3.alloc oI).alloc zBox).alloc (.cells #[.string ⟨#[110]⟩] 9 (0, 0))).drew.heap[W3.heap.size + 1]? = some zObj) := ⟨by refine blk_drew ?_; repeat (first | (with_reducible refine blk_drew ?_) | exact blk_new_at (by simp only [World.size_alloc, World.size_drew]) | (with_reducible refine blk_alloc ?_ _))⟩
  have NIZL : Aside0 ((((W3.alloc oI).alloc zBox).alloc (.cells #[.string ⟨#[110]⟩] 9 (0, 0))).drew.heap[W3.heap.size + 1 + 1]? = some (.cells #[.string ⟨#[110]⟩] 9 (0, 0))) := ⟨by refine blk_drew ?_; repeat (first | (with_reducible refine blk_drew ?_) | exact blk_new_at (by simp only [World.size_alloc, World.size_drew]) | (with_reducible refine blk_alloc ?_ _))⟩
  have VZIL : Aside0 (Below W3.heap.size W3 (((W3.alloc zBox).alloc oI).alloc (.cells #[.string ⟨#[110]⟩] 9 (0, 0))).drew) := ⟨below_drew (below_alloc (below_alloc (below_alloc (Below.refl _ _) _) _) _)⟩
  have ZZIL : Aside0 ((((W3.alloc zBox).alloc oI).alloc (.cells #[.string ⟨#[110]⟩] 9 (0, 0))).drew.heap[W3.heap.size]? = some zObj) := ⟨by refine blk_drew ?_; repeat (first | (with_reducible refine blk_drew ?_) | exact blk_new_at (by simp only [World.size_alloc, World.size_drew]) | (with_reducible refine blk_alloc ?_ _))⟩
  have MZIL : Aside0 ((((W3.alloc zBox).alloc oI).alloc (.cells #[.string ⟨#[110]⟩] 9 (0, 0))).drew.heap[W3.heap.size + 1]? = some oI) := ⟨by refine blk_drew ?_; repeat (first | (with_reducible refine blk_drew ?_) | exact blk_new_at (by simp only [World.size_alloc, World.size_drew]) | (with_reducible refine blk_alloc ?_ _))⟩
  have NZIL : Aside0 ((((W3.alloc zBox).alloc oI).alloc (.cells #[.string ⟨#[110]⟩] 9 (0, 0))).drew.heap[W3.heap.size + 1 + 1]? = some (.cells #[.string ⟨#[110]⟩] 9 (0, 0))) := ⟨by refine blk_drew ?_; repeat (first | (with_reducible refine blk_drew ?_) | exact blk_new_at (by simp only [World.size_alloc, World.size_drew]) | (with_reducible refine blk_alloc ?_ _))⟩
  go_cut [9, 10] (fun s9 s10 wx => LvMid w s W3 3 0 s9 s10 wx)
  case first =>
    go_region_held3 (fun w' => w'.cell? ⟨s + 1 + 1 + 1 + 1, 0, none⟩ = some (.int .u8 5) ∧ w'.cell? ⟨s + 1 + 1 + 1 + 1, 1, none⟩ = some (.string ⟨#[]⟩) ∧ w'.cell? ⟨s + 1 + 1 + 1 + 1, 2, none⟩ = some (.int .i64 0) ∧ w'.cell? ⟨s + 1 + 1 + 1 + 1, 3, none⟩ = some (.slice (some ⟨s + 1 + 1 + 1, 0, none⟩) 2 2) ∧ w'.cell? ⟨s + 1 + 1 + 1 + 1, 4, none⟩ = some (.slice (some ⟨s + 1 + 1, 0, none⟩) 2 2) ∧ w'.cell? ⟨s + 1, 3, none⟩ = some (.slice (some ⟨s, 0, none⟩) 2 2) ∧ w'.cell? ⟨s, 0, none⟩ = some (.int .u8 2) ∧ w'.cell? ⟨s, 1, none⟩ = some (.string ⟨#[]⟩) ∧ w'.cell? ⟨s, 2, none⟩ = some (.int .i64 1) ∧ w'.cell? ⟨s, 3, none⟩ = some (.slice none 0 0) ∧ w'.cell? ⟨s, 4, none⟩ = some (.slice none 0 0))
      (first
        | with_reducible exact KP.out _ (put5_below hbd (Nat.le_refl _))
        | with_reducible exact KP.out _ (put5_below hbd (Nat.le_succ _))
        | with_reducible exact KP.out _ (put5_below hbd (Nat.le_succ_of_le (Nat.le_succ _)))
        | with_reducible exact KP.out _ (by repeat first | exact hbd | exact Below.refl _ _ | refine below_drew ?_ | refine below_alloc ?_ _))
      (first
        | (go_at_call 31; (with_reducible refine (hM _ _ _ VLI.out NLI.out MLI.out).mono ?_); rintro e w2 ⟨hb2, A3, c3, A4, c4, rfl⟩; have hbd := below_step VLI.out hb2)
        | (go_at_call 31; (with_reducible refine (hM _ _ _ VIL.out NIL.out MIL.out).mono ?_); rintro e w2 ⟨hb2, A3, c3, A4, c4, rfl⟩; have hbd := below_step VIL.out hb2)
        | (go_at_call 31; (with_reducible refine (hM _ _ _ VLIZ.out NLIZ.out MLIZ.out).mono ?_); rintro e w2 ⟨hb2, A3, c3, A4, c4, rfl⟩; have hbd := below_step VLIZ.out hb2; obtain ⟨q0, q1, q2, q3, q4, r0, r1, r2, r3, r4⟩ := cells_5 (blk_below ZLIZ.out hb2))
        | (go_at_call 31; (with_reducible refine (hM _ _ _ VLZI.out NLZI.out MLZI.out).mono ?_); rintro e w2 ⟨hb2, A3, c3, A4, c4, rfl⟩; have hbd := below_step VLZI.out hb2; obtain ⟨q0, q1, q2, q3, q4, r0, r1, r2, r3, r4⟩ := cells_5 (blk_below ZLZI.out hb2))
        | (go_at_call 31; (with_reducible refine (hM _ _ _ VZLI.out NZLI.out MZLI.out).mono ?_); rintro e w2 ⟨hb2, A3, c3, A4, c4, rfl⟩; have hbd := below_step VZLI.out hb2; obtain ⟨q0, q1, q2, q3, q4, r0, r1, r2, r3, r4⟩ := cells_5 (blk_below ZZLI.out hb2))
        | (go_at_call 31; (with_reducible refine (hM _ _ _ VILZ.out NILZ.out MILZ.out).mono ?_); rintro e w2 ⟨hb2, A3, c3, A4, c4, rfl⟩; have hbd := below_step VILZ.out hb2; obtain ⟨q0, q1, q2, q3, q4, r0, r1, r2, r3, r4⟩ := cells_5 (blk_below ZILZ.out hb2))
        | (go_at_call 31; (with_reducible refine (hM _ _ _ VIZL.out NIZL.out MIZL.out).mono ?_); rintro e w2 ⟨hb2, A3, c3, A4, c4, rfl⟩; have hbd := below_step VIZL.out hb2; obtain ⟨q0, q1, q2, q3, q4, r0, r1, r2, r3, r4⟩ := cells_5 (blk_below ZIZL.out hb2))
        | (go_at_call 31; (with_reducible refine (hM _ _ _ VZIL.out NZIL.out MZIL.out).mono ?_); rintro e w2 ⟨hb2, A3, c3, A4, c4, rfl⟩; have hbd := below_step VZIL.out hb2; obtain ⟨q0, q1, q2, q3, q4, r0, r1, r2, r3, r4⟩ := cells_5 (blk_below ZZIL.out hb2)))
    all_goals
      (go_wp2_with fail)
      go_meet
      first
        | with_reducible exact lv_new HI3.out hbd
        | with_reducible exact lv_old HI3.out VLIZ.out hb2 ZLIZ.out (Nat.le_succ_of_le (Nat.le_succ _))
        | with_reducible exact lv_old HI3.out VLZI.out hb2 ZLZI.out (Nat.le_succ _)
        | with_reducible exact lv_old HI3.out VZLI.out hb2 ZZLI.out (Nat.le_refl _)
        | with_reducible exact lv_old HI3.out VILZ.out hb2 ZILZ.out (Nat.le_succ_of_le (Nat.le_succ _))
        | with_reducible exact lv_old HI3.out VIZL.out hb2 ZIZL.out (Nat.le_succ _)
        | with_reducible exact lv_old HI3.out VZIL.out hb2 ZZIL.out (Nat.le_refl _)
  case rest =>
    clear hM KP VLI VIL VLIZ VLZI VZLI VILZ VIZL VZIL NLI MLI NIL MIL NLIZ MLIZ ZLIZ NLZI MLZI ZLZI NZLI MZLI ZZLI NILZ MILZ ZILZ NIZL MIZL ZIZL NZIL MZIL ZZIL y0 y1 y2 y3 y4 y5 x0 x1 x2 x3 x4
    obtain ⟨b9, rfl, rfl, hk9, -, hI, -⟩ := hcut
    rename World => W4
    have HI4 := Aside0.mk hI
    have HK9 := Aside0.mk hk9
    clear hI hk9 HI3
    go_upto_region 7 with (fail)
    have hM : ∀ (V : World) (n m : Nat), Below W4.heap.size W4 V → V.heap[n]? = some (.cells #[.string ⟨#[116, 104, 105, 115]⟩] 9 (0, 0)) → V.heap[m]? = some oI → Calls Tryz.prog 31 #[.slice (some ⟨n, 0, none⟩) 1 1, aV s, .slice (some ⟨m, 0, none⟩) 1 1] V fun e w' => Below V.heap.size V w' ∧ ∃ A3 c3 A4 c4, e = .returned (.tuple #[.agg #[.int .u8 2, .string ⟨#[]⟩, .int .i64 1, .slice A3 0 c3, .slice A4 0 c4], .int .i64 0]) := lv_means HI4.out [116, 104, 105, 115] (by decide) it0 meansT
    have KP : Aside0 (∀ w' : World, Below W4.heap.size W4 w' → w'.cell? ⟨s + 1 + 1 + 1 + 1, 0, none⟩ = some (.int .u8 5) ∧ w'.cell? ⟨s + 1 + 1 + 1 + 1, 1, none⟩ = some (.string ⟨#[]⟩) ∧ w'.cell? ⟨s + 1 + 1 + 1 + 1, 2, none⟩ = some (.int .i64 0) ∧ w'.cell? ⟨s + 1 + 1 + 1 + 1, 3, none⟩ = some (.slice (some ⟨s + 1 + 1 + 1, 0, none⟩) 2 2) ∧ w'.cell? ⟨s + 1 + 1 + 1 + 1, 4, none⟩ = some (.slice (some ⟨s + 1 + 1, 0, none⟩) 2 2) ∧ w'.cell? ⟨s + 1, 3, none⟩ = some (.slice (some ⟨s, 0, none⟩) 2 2) ∧ w'.cell? ⟨s, 0, none⟩ = some (.int .u8 2) ∧ w'.cell? ⟨s, 1, none⟩ = some (.string ⟨#[]⟩) ∧ w'.cell? ⟨s, 2, none⟩ = some (.int .i64 1) ∧ w'.cell? ⟨s, 3, none⟩ = some (.slice none 0 0) ∧ w'.cell? ⟨s, 4, none⟩ = some (.slice none 0 0)) :=
      ⟨fun w' hb => ⟨(blk_cell (HI4.out.below hb).b2 0).trans rfl, (blk_cell (HI4.out.below hb).b2 1).trans rfl, (blk_cell (HI4.out.below hb).b2 2).trans rfl, (blk_cell (HI4.out.below hb).b2 3).trans rfl, (blk_cell (HI4.out.below hb).b2 4).trans rfl, (blk_cell (HI4.out.below hb).b1 3).trans rfl, (blk_cell (HI4.out.below hb).bL 0).trans rfl, (blk_cell (HI4.out.below hb).bL 1).trans rfl, (blk_cell (HI4.out.below hb).bL 2).trans rfl, (blk_cell (HI4.out.below hb).bL 3).trans rfl, (blk_cell (HI4.out.below hb).bL 4).trans rfl⟩⟩
    obtain ⟨y0, y1, y2, y3, y4, y5, x0, x1, x2, x3, x4⟩ := KP.out W4 (Below.refl _ _)
    have VLI : Aside0 (Below W4.heap.size W4 ((W4.alloc (.cells #[.string ⟨#[116, 104, 105, 115]⟩] 9 (0, 0))).alloc oI).drew) := ⟨below_drew (below_alloc (below_alloc (Below.refl _ _) _) _)⟩
    have NLI : Aside0 (((W4.alloc (.cells #[.string ⟨#[116, 104, 105, 115]⟩] 9 (0, 0))).alloc oI).drew.heap[W4.heap.size]? = some (.cells #[.string ⟨#[116, 104, 105, 115]⟩] 9 (0, 0))) := ⟨by refine blk_drew ?_; repeat (first | (with_reducible refine blk_drew ?_) | exact blk_new_at (by simp only [World.size_alloc, World.size_drew]) | (with_reducible refine blk_alloc ?_ _))⟩
    have MLI : Aside0 (((W4.alloc (.cells #[.string ⟨#[116, 104, 105, 115]⟩] 9 (0, 0))).alloc oI).drew.heap[W4.heap.size + 1]? = some oI) := ⟨by refine blk_drew ?_; repeat (first | (with_reducible refine blk_drew ?_) | exact blk_new_at (by simp only [World.size_alloc, World.size_drew]) | (with_reducible refine blk_alloc ?_ _))⟩
    have VIL : Aside0 (Below W4.heap.size W4 ((W4.alloc oI).alloc (.cells #[.string ⟨#[116, 104, 105, 115]⟩] 9 (0, 0))).drew) := ⟨below_drew (below_alloc (below_alloc (Below.refl _ _) _) _)⟩
    have MIL : Aside0 (((W4.alloc oI).alloc (.cells #[.string ⟨#[116, 104, 105, 115]⟩] 9 (0, 0))).drew.heap[W4.heap.size]? = some oI) := ⟨by refine blk_drew ?_; repeat (first | (with_reducible refine blk_drew ?_) | exact blk_new_at (by simp only [World.size_alloc, World.size_drew]) | (with_reducible refine blk_alloc ?_ _))⟩
    have NIL : Aside0 (((W4.alloc oI).alloc (.cells #[.string ⟨#[116, 104, 105, 115]⟩] 9 (0, 0))).drew.heap[W4.heap.size + 1]? = some (.cells #[.string ⟨#[116, 104, 105, 115]⟩] 9 (0, 0))) := ⟨by refine blk_drew ?_; repeat (first | (with_reducible refine blk_drew ?_) | exact blk_new_at (by simp only [World.size_alloc, World.size_drew]) | (with_reducible refine blk_alloc ?_ _))⟩
    have VLIZ : Aside0 (Below W4.heap.size W4 (((W4.alloc (.cells #[.string ⟨#[116, 104, 105, 115]⟩] 9 (0, 0))).alloc oI).alloc zBox).drew) := ⟨below_drew (below_alloc (below_alloc (below_alloc (Below.refl _ _) _) _) _)⟩
    have NLIZ : Aside0 ((((W4.alloc (.cells #[.string ⟨#[116, 104, 105, 115]⟩] 9 (0, 0))).alloc oI).alloc zBox).drew.heap[W4.heap.size]? = some (.cells #[.string ⟨#[116, 104, 105, 115]⟩] 9 (0, 0))) := ⟨by refine blk_drew ?_; repeat (first | (with_reducible refine blk_drew ?_) | exact blk_new_at (by simp only [World.size_alloc, World.size_drew]) | (with_reducible refine blk_alloc ?_ _))⟩
    have MLIZ : Aside0 ((((W4.alloc (.cells #[.string ⟨#[116, 104, 105, 115]⟩] 9 (0, 0))).alloc oI).alloc zBox).drew.heap[W4.heap.size + 1]? = some oI) := ⟨by refine blk_drew ?_; repeat (first | (with_reducible refine blk_drew ?_) | exact blk_new_at (by simp only [World.size_alloc, World.size_drew]) | (with_reducible refine blk_alloc ?_ _))⟩
    have ZLIZ : Aside0 ((((W4.alloc (.cells #[.string ⟨#[116, 104, 105, 115]⟩] 9 (0, 0))).alloc oI).alloc zBox).drew.heap[W4.heap.size + 1 + 1]? = some zObj) := ⟨by refine blk_drew ?_; repeat (first | (with_reducible refine blk_drew ?_) | exact blk_new_at (by simp only [World.size_alloc, World.size_drew]) | (with_reducible refine blk_alloc ?_ _))⟩
    have VLZI : Aside0 (Below W4.heap.size W4 (((W4.alloc (.cells #[.string ⟨#[116, 104, 105, 115]⟩] 9 (0, 0))).alloc zBox).alloc oI).drew) := ⟨below_drew (below_alloc (below_alloc (below_alloc (Below.refl _ _) _) _) _)⟩
    have NLZI : Aside0 ((((W4.alloc (.cells #[.string ⟨#[116, 104, 105, 115]⟩] 9 (0, 0))).alloc zBox).alloc oI).drew.heap[W4.heap.size]? = some (.cells #[.string ⟨#[116, 104, 105, 115]⟩] 9 (0, 0))) := ⟨by refine blk_drew ?_; repeat (first | (with_reducible refine blk_drew ?_) | exact blk_new_at (by simp only [World.size_alloc, World.size_drew]) | (with_reducible refine blk_alloc ?_ _))⟩
    have ZLZI : Aside0 ((((W4.alloc (.cells #[.string ⟨#[116, 104, 105, 115]⟩] 9 (0, 0))).alloc zBox).alloc oI).drew.heap[W4.heap.size + 1]? = some zObj) := ⟨by refine blk_drew ?_; repeat (first | (with_reducible refine blk_drew ?_) | exact blk_new_at (by simp only [World.size_alloc, World.size_drew]) | (with_reducible refine blk_alloc ?_ _))⟩
    have MLZI : Aside0 ((((W4.alloc (.cells #[.string ⟨#[116, 104, 105, 115]⟩] 9 (0, 0))).alloc zBox).alloc oI).drew.heap[W4.heap.size + 1 + 1]? = some oI) := ⟨by refine blk_drew ?_; repeat (first | (with_reducible refine blk_drew ?_) | exact blk_new_at (by simp only [World.size_alloc, World.size_drew]) | (with_reducible refine blk_alloc ?_ _))⟩
    have VZLI : Aside0 (Below W4.heap.size W4 (((W4.alloc zBox).alloc (.cells #[.string ⟨#[116, 104, 105, 115]⟩] 9 (0, 0))).alloc oI).drew) := ⟨below_drew (below_alloc (below_alloc (below_alloc (Below.refl _ _) _) _) _)⟩
    have ZZLI : Aside0 ((((W4.alloc zBox).alloc (.cells #[.string ⟨#[116, 104, 105, 115]⟩] 9 (0, 0))).alloc oI).drew.heap[W4.heap.size]? = some zObj) := ⟨by refine blk_drew ?_; repeat (first | (with_reducible refine blk_drew ?_) | exact blk_new_at (by simp only [World.size_alloc, World.size_drew]) | (with_reducible refine blk_alloc ?_ _))⟩
    have NZLI : Aside0 ((((W4.alloc zBox).alloc (.cells #[.string ⟨#[116, 104, 105, 115]⟩] 9 (0, 0))).alloc oI).drew.heap[W4.heap.size + 1]? = some (.cells #[.string ⟨#[116, 104, 105, 115]⟩] 9 (0, 0))) := ⟨by refine blk_drew ?_; repeat (first | (with_reducible refine blk_drew ?_) | exact blk_new_at (by simp only [World.size_alloc, World.size_drew]) | (with_reducible refine blk_alloc ?_ _))⟩
    have MZLI : Aside0 ((((W4.alloc zBox).alloc (.cells #[.string ⟨#[116, 104, 105, 115]⟩] 9 (0, 0))).alloc oI).drew.heap[W4.heap.size + 1 + 1]? = some oI) := ⟨by refine blk_drew ?_; repeat (first | (with_reducible refine blk_drew ?_) | exact blk_new_at (by simp only [World.size_alloc, World.size_drew]) | (with_reducible refine blk_alloc ?_ _))⟩
    have VILZ : Aside0 (Below W4.heap.size W4 (((W4.alloc oI).alloc (.cells #[.string ⟨#[116, 104, 105, 115]⟩] 9 (0, 0))).alloc zBox).drew) := ⟨below_drew (below_alloc (below_alloc (below_alloc (Below.refl _ _) _) _) _)⟩
    have MILZ : Aside0 ((((W4.alloc oI).alloc (.cells #[.string ⟨#[116, 104, 105, 115]⟩] 9 (0, 0))).alloc zBox).drew.heap[W4.heap.size]? = some oI) := ⟨by refine blk_drew ?_; repeat (first | (with_reducible refine blk_drew ?_) | exact blk_new_at (by simp only [World.size_alloc, World.size_drew]) | (with_reducible refine blk_alloc ?_ _))⟩
    have NILZ : Aside0 ((((W4.alloc oI).alloc (.cells #[.string ⟨#[116, 104, 105, 115]⟩] 9 (0, 0))).alloc zBox).drew.heap[W4.heap.size + 1]? = some (.cells #[.string ⟨#[116, 104, 105, 115]⟩] 9 (0, 0))) := ⟨by refine blk_drew ?_; repeat (first | (with_reducible refine blk_drew ?_) | exact blk_new_at (by simp only [World.size_alloc, World.size_drew]) | (with_reducible refine blk_alloc ?_ _))⟩
    have ZILZ : Aside0 ((((W4.alloc oI).alloc (.cells #[.string ⟨#[116, 104, 105, 115]⟩] 9 (0, 0))).alloc zBox).drew.heap[W4.heap.size + 1 + 1]? = some zObj) := ⟨by refine blk_drew ?_; repeat (first | (with_reducible refine blk_drew ?_) | exact blk_new_at (by simp only [World.size_alloc, World.size_drew]) | (with_reducible refine blk_alloc ?_ _))⟩
    have VIZL : Aside0 (Below W4.heap.size W4 (((W4.alloc oI).alloc zBox).alloc (.cells #[.string ⟨#[116, 104, 105, 115]⟩] 9 (0, 0))).drew) := ⟨below_drew (below_alloc (below_alloc (below_alloc (Below.refl _ _) _) _) _)⟩
    have MIZL : Aside0 ((((W4.alloc oI).alloc zBox).alloc (.cells #[.string ⟨#[116, 104, 105, 115]⟩] 9 (0, 0))).drew.heap[W4.heap.size]? = some oI) := ⟨by refine blk_drew ?_; repeat (first | (with_reducible refine blk_drew ?_) | exact blk_new_at (by simp only [World.size_alloc, World.size_drew]) | (with_reducible refine blk_alloc ?_ _))⟩
    have ZIZL : Aside0 ((((W4.alloc oI).alloc zBox).alloc (.cells #[.string ⟨#[116, 104, 105, 115]⟩] 9 (0, 0))).drew.heap[W4.heap.size + 1]? = some zObj) := ⟨by refine blk_drew ?_; repeat (first | (with_reducible refine blk_drew ?_) | exact blk_new_at (by simp only [World.size_alloc, World.size_drew]) | (with_reducible refine blk_alloc ?_ _))⟩
    have NIZL : Aside0 ((((W4.alloc oI).alloc zBox).alloc (.cells #[.string ⟨#[116, 104, 105, 115]⟩] 9 (0, 0))).drew.heap[W4.heap.size + 1 + 1]? = some (.cells #[.string ⟨#[116, 104, 105, 115]⟩] 9 (0, 0))) := ⟨by refine blk_drew ?_; repeat (first | (with_reducible refine blk_drew ?_) | exact blk_new_at (by simp only [World.size_alloc, World.size_drew]) | (with_reducible refine blk_alloc ?_ _))⟩
    have VZIL : Aside0 (Below W4.heap.size W4 (((W4.alloc zBox).alloc oI).alloc (.cells #[.string ⟨#[116, 104, 105, 115]⟩] 9 (0, 0))).drew) := ⟨below_drew (below_alloc (below_alloc (below_alloc (Below.refl _ _) _) _) _)⟩
    have ZZIL : Aside0 ((((W4.alloc zBox).alloc oI).alloc (.cells #[.string ⟨#[116, 104, 105, 115]⟩] 9 (0, 0))).drew.heap[W4.heap.size]? = some zObj) := ⟨by refine blk_drew ?_; repeat (first | (with_reducible refine blk_drew ?_) | exact blk_new_at (by simp only [World.size_alloc, World.size_drew]) | (with_reducible refine blk_alloc ?_ _))⟩
    have MZIL : Aside0 ((((W4.alloc zBox).alloc oI).alloc (.cells #[.string ⟨#[116, 104, 105, 115]⟩] 9 (0, 0))).drew.heap[W4.heap.size + 1]? = some oI) := ⟨by refine blk_drew ?_; repeat (first | (with_reducible refine blk_drew ?_) | exact blk_new_at (by simp only [World.size_alloc, World.size_drew]) | (with_reducible refine blk_alloc ?_ _))⟩
    have NZIL : Aside0 ((((W4.alloc zBox).alloc oI).alloc (.cells #[.string ⟨#[116, 104, 105, 115]⟩] 9 (0, 0))).drew.heap[W4.heap.size + 1 + 1]? = some (.cells #[.string ⟨#[116, 104, 105, 115]⟩] 9 (0, 0))) := ⟨by refine blk_drew ?_; repeat (first | (with_reducible refine blk_drew ?_) | exact blk_new_at (by simp only [World.size_alloc, World.size_drew]) | (with_reducible refine blk_alloc ?_ _))⟩
    go_cut [11, 12] (fun s9 s10 wx => LvMid w s W4 2 1 s9 s10 wx)
    case first =>
      go_region_held3 (fun w' => w'.cell? ⟨s + 1 + 1 + 1 + 1, 0, none⟩ = some (.int .u8 5) ∧ w'.cell? ⟨s + 1 + 1 + 1 + 1, 1, none⟩ = some (.string ⟨#[]⟩) ∧ w'.cell? ⟨s + 1 + 1 + 1 + 1, 2, none⟩ = some (.int .i64 0) ∧ w'.cell? ⟨s + 1 + 1 + 1 + 1, 3, none⟩ = some (.slice (some ⟨s + 1 + 1 + 1, 0, none⟩) 2 2) ∧ w'.cell? ⟨s + 1 + 1 + 1 + 1, 4, none⟩ = some (.slice (some ⟨s + 1 + 1, 0, none⟩) 2 2) ∧ w'.cell? ⟨s + 1, 3, none⟩ = some (.slice (some ⟨s, 0, none⟩) 2 2) ∧ w'.cell? ⟨s, 0, none⟩ = some (.int .u8 2) ∧ w'.cell? ⟨s, 1, none⟩ = some (.string ⟨#[]⟩) ∧ w'.cell? ⟨s, 2, none⟩ = some (.int .i64 1) ∧ w'.cell? ⟨s, 3, none⟩ = some (.slice none 0 0) ∧ w'.cell? ⟨s, 4, none⟩ = some (.slice none 0 0))
        (first
          | with_reducible exact KP.out _ (put5_below hbd (Nat.le_refl _))
          | with_reducible exact KP.out _ (put5_below hbd (Nat.le_succ _))
          | with_reducible exact KP.out _ (put5_below hbd (Nat.le_succ_of_le (Nat.le_succ _)))
          | with_reducible exact KP.out _ (by repeat first | exact hbd | exact Below.refl _ _ | refine below_drew ?_ | refine below_alloc ?_ _))
        (first
          | (go_at_call 31; (with_reducible refine (hM _ _ _ VLI.out NLI.out MLI.out).mono ?_); rintro e w2 ⟨hb2, A3, c3, A4, c4, rfl⟩; have hbd := below_step VLI.out hb2)
          | (go_at_call 31; (with_reducible refine (hM _ _ _ VIL.out NIL.out MIL.out).mono ?_); rintro e w2 ⟨hb2, A3, c3, A4, c4, rfl⟩; have hbd := below_step VIL.out hb2)
          | (go_at_call 31; (with_reducible refine (hM _ _ _ VLIZ.out NLIZ.out MLIZ.out).mono ?_); rintro e w2 ⟨hb2, A3, c3, A4, c4, rfl⟩; have hbd := below_step VLIZ.out hb2; obtain ⟨q0, q1, q2, q3, q4, r0, r1, r2, r3, r4⟩ := cells_5 (blk_below ZLIZ.out hb2))
          | (go_at_call 31; (with_reducible refine (hM _ _ _ VLZI.out NLZI.out MLZI.out).mono ?_); rintro e w2 ⟨hb2, A3, c3, A4, c4, rfl⟩; have hbd := below_step VLZI.out hb2; obtain ⟨q0, q1, q2, q3, q4, r0, r1, r2, r3, r4⟩ := cells_5 (blk_below ZLZI.out hb2))
          | (go_at_call 31; (with_reducible refine (hM _ _ _ VZLI.out NZLI.out MZLI.out).mono ?_); rintro e w2 ⟨hb2, A3, c3, A4, c4, rfl⟩; have hbd := below_step VZLI.out hb2; obtain ⟨q0, q1, q2, q3, q4, r0, r1, r2, r3, r4⟩ := cells_5 (blk_below ZZLI.out hb2))
          | (go_at_call 31; (with_reducible refine (hM _ _ _ VILZ.out NILZ.out MILZ.out).mono ?_); rintro e w2 ⟨hb2, A3, c3, A4, c4, rfl⟩; have hbd := below_step VILZ.out hb2; obtain ⟨q0, q1, q2, q3, q4, r0, r1, r2, r3, r4⟩ := cells_5 (blk_below ZILZ.out hb2))
          | (go_at_call 31; (with_reducible refine (hM _ _ _ VIZL.out NIZL.out MIZL.out).mono ?_); rintro e w2 ⟨hb2, A3, c3, A4, c4, rfl⟩; have hbd := below_step VIZL.out hb2; obtain ⟨q0, q1, q2, q3, q4, r0, r1, r2, r3, r4⟩ := cells_5 (blk_below ZIZL.out hb2))
          | (go_at_call 31; (with_reducible refine (hM _ _ _ VZIL.out NZIL.out MZIL.out).mono ?_); rintro e w2 ⟨hb2, A3, c3, A4, c4, rfl⟩; have hbd := below_step VZIL.out hb2; obtain ⟨q0, q1, q2, q3, q4, r0, r1, r2, r3, r4⟩ := cells_5 (blk_below ZZIL.out hb2)))
      all_goals
        (go_wp2_with fail)
        go_meet
        first
          | with_reducible exact lv_new HI4.out hbd
          | with_reducible exact lv_old HI4.out VLIZ.out hb2 ZLIZ.out (Nat.le_succ_of_le (Nat.le_succ _))
          | with_reducible exact lv_old HI4.out VLZI.out hb2 ZLZI.out (Nat.le_succ _)
          | with_reducible exact lv_old HI4.out VZLI.out hb2 ZZLI.out (Nat.le_refl _)
          | with_reducible exact lv_old HI4.out VILZ.out hb2 ZILZ.out (Nat.le_succ_of_le (Nat.le_succ _))
          | with_reducible exact lv_old HI4.out VIZL.out hb2 ZIZL.out (Nat.le_succ _)
          | with_reducible exact lv_old HI4.out VZIL.out hb2 ZZIL.out (Nat.le_refl _)
    case rest =>
      clear hM KP VLI VIL VLIZ VLZI VZLI VILZ VIZL VZIL NLI MLI NIL MIL NLIZ MLIZ ZLIZ NLZI MLZI ZLZI NZLI MZLI ZZLI NILZ MILZ ZILZ NIZL MIZL ZIZL NZIL MZIL ZZIL y0 y1 y2 y3 y4 y5 x0 x1 x2 x3 x4
      obtain ⟨b11, rfl, rfl, -, hk11, hI, hb⟩ := hcut
      rename World => W5
      have HI5 := Aside0.mk hI
      have HK9' := Aside0.mk (pw_cell_below hb HK9.out)
      have HK11 := Aside0.mk hk11
      clear hI hk11 hb HI4 HK9
      obtain ⟨y0, y1, y2, y3, y4, -⟩ := cells_5 HI5.out.b2
      go_upto_region 8 with (fail)
      have hbl := below_alloc (Below.refl W5.heap.size W5) (.cells #[.string ⟨#[116, 104, 105, 115]⟩] 9)
      have h1 := means_any [thisS] (some ⟨W5.heap.size, 0, none⟩) 1 valV _ _ _ _ .nil none 0 (W5.alloc (.cells #[.string ⟨#[116, 104, 105, 115]⟩] 9)) (lit_at (blk_new W5 _)) (by simp) valV_fit (HI5.out.below hbl).rd trivial (by decide) (by decide) (rdV_nil _)
      rw [meansO] at h1
      have HI5' := Aside0.mk (HI5.out.below hbl)
      have HB5' := Aside0.mk hbl
      clear hbl y0 y1 y2 y3 y4
      obtain ⟨y0, y1, y2, y3, y4, -⟩ := cells_5 HI5'.out.b2
      go_wp2_with fail
      refine h1.mono ?_
      rintro e W6 ⟨hb, rfl⟩
      have hba := below_alloc (Below.refl W6.heap.size W6) zBox
      have HI6 := Aside0.mk ((HI5'.out.below hb).below hba)
      have HB6 := Aside0.mk (below_step HB5'.out (below_step hb hba))
      clear h1 hb hba HI5 HI5' HB5' y0 y1 y2 y3 y4
      go_upto_region 9 with (fail)
      generalize W6.alloc zBox = W7 at HI6 HB6 ⊢
      have h1 := fill_any .nil none 0 Val.zero none 0 none 0 1 W7 (HG.out.below HI6.out.bel) trivial (by decide) (by decide) ⟨Kd.C_nil _ _, Nat.le_refl _⟩ ⟨⟨by decide, by decide, ⟨by decide, by decide⟩, by decide, by decide, by simp [Val.zero], trivial, trivial⟩, by decide⟩ ⟨rdV_nil _, rdS_nil _⟩
      rw [fillZ] at h1
      go_wp2_with fail
      refine h1.mono ?_
      rintro e W8 ⟨hb, rfl⟩
      have HI8 := Aside0.mk (HI6.out.below hb)
      have HB8 := Aside0.mk (below_step HB6.out hb)
      clear h1 hb HI6 HB6
      obtain ⟨y0, y1, y2, y3, y4, -⟩ := cells_5 HI8.out.b2
      have hT := text_any srcL (by decide) poL valV _ _ _ _ 3 W8 (HG.out.below HI8.out.bel) valV_fit HI8.out.rd
      rw [textL] at hT
      go_wp2_with fail
      refine hT.mono ?_
      rintro e W9 ⟨hb, rfl⟩
      have HI9 := Aside0.mk (HI8.out.below hb)
      have hB9 := below_step HB8.out hb
      have c9 := pw_cell_below hB9 HK9'.out
      have c11 := pw_cell_below hB9 HK11.out
      clear hT hb HI8 HB8 hB9 y0 y1 y2 y3 y4
      have e1 : ((bs [49, 44, 38, 108, 116, 59, 44, 60, 121]).toList == [49, 44, 38, 108, 116, 59, 44, 60, 121]) = true := by rw [bs_list]; rfl
      have e2 : ((bs [97, 50]).toList == [97, 50]) = true := by rw [bs_list]; rfl
      go_wp2
      go_ret
      exact ⟨rfl, HI9.out.bel⟩
end Go.Proofs.YtniibpndgcndbaaGreatDoor.Tpl
namespace Go.Proofs.YtniibpndgcndbaaGreatDoor.Tpl
open Go.RowKit Go.Proofs Go.Proofs.YtniibpndgcndbaaGreatDoor.PB Go.Proofs.YtniibpndgcndbaaGreatDoor.Short Go.Proofs.YtniibpndgcndbaaGreatDoorW.PrintWords Go.Proofs.YtniibpndgcndbaaGreatDoorW.PrintLast Go.Proofs.YtniibpndgcndbaaGreatDoorW.PrintMore Vals
theorem one_fit {v : Val} (h : v.fit) : v.one.sm := h.1
theorem MeansP_fit {path : List S} {v x : Val} {l : Vals} (hv : v.fit) (hl : ∀ y, y ∈ l.list → y.fit) (h : MeansP path v l = .ok x) : x.fit := by
  unfold MeansP at h
  split at h
  · refine fit_of (means_ok (fun y hy => ?_) h)
    rcases List.mem_append.1 hy with h | h
    · exact (hl y (List.mem_reverse.1 h)).1
    · rw [List.mem_singleton.1 h]; exact hv.1
  · cases h
theorem zero_fit : Val.zero.fit := ⟨⟨by decide, by decide, ⟨by decide, by decide⟩, by decide, by decide, fun s h => absurd h (List.not_mem_nil (a := s)), trivial, trivial⟩, by decide⟩
theorem same_res {o : Except Int Val} {ok : Nat → Prop} {w1 w2 : World} {B : Nat} {x y : Val} {k j : Int} {E3 F3 : Option Addr} {f3 g3 : Nat} {E4 F4 : Option Addr} {f4 g4 : Nat} (h1 : ResV o ok w1 x k E3 f3 E4 f4) (h2 : Res9 o B w2 y j F3 g3 F4 g4) : y = x ∧ j = k := by
  obtain ⟨_, h1⟩ := h1
  obtain ⟨_, h2⟩ := h2
  cases o with
  | error e => exact ⟨h2.2.trans h1.2.1.symm, h2.1.trans h1.1.symm⟩
  | ok z => exact ⟨h2.1.trans h1.1.symm, h2.2.trans h1.2.symm⟩
theorem res_fit {o : Except Int Val} {ok : Nat → Prop} {w1 : World} {x : Val} {k : Int} {E3 : Option Addr} {f3 : Nat} {E4 : Option Addr} {f4 : Nat} (ho : ∀ y, o = .ok y → y.fit) (h1 : ResV o ok w1 x k E3 f3 E4 f4) : x.fit := by
  obtain ⟨_, h1⟩ := h1
  cases o with
  | error e => rw [h1.2.1]; exact zero_fit
  | ok z => rw [h1.1]; exact ho z rfl
set_option maxHeartbeats 2000000 in
set_option maxRecDepth 100000 in
theorem rMeans_any (Ap : Option Addr) (cp : Nat) (path : List S) (v : Val) (A3 : Option Addr) (c3 : Nat) (A4 : Option Addr) (c4 : Nat) (l : Vals) (Ai : Option Addr) (ci : Nat) (w : World)
    (hP : RdS w Ap cp path) (hp : path.length ≤ 1048576) (hv : v.fit) (hV : RdV w v A3 c3 A4 c4) (hs : l.sm) (hL : Vals.Rd w Ai ci l) (hl : l.len ≤ 1048576) (hc : l.cnt ≤ 1048576) :
    Calls Tryz.prog 32 #[.slice Ap path.length cp, vAgg v A3 c3 A4 c4, .slice Ai l.len ci] w (Ret9 (MeansP path v l) w) := by
  obtain ⟨o, ho⟩ : ∃ o, MeansP path v l = o := ⟨_, rfl⟩
  rw [ho]
  have HO := Aside0.mk ho
  have HV := Aside0.mk hV
  have HP := Aside0.mk hP
  have HL := Aside0.mk hL
  have HF := Aside0.mk hv
  have HS := Aside0.mk hs
  have HLF := Aside0.mk (Vals.list_fit l hs hc)
  have hb1 := below_alloc (below_alloc (Below.refl w.heap.size w) (vObj v.k v.t v.n v.i v.m A3 c3 A4 c4)) zBox
  have BK1 := blk_alloc (blk_new w (vObj v.k v.t v.n v.i v.m A3 c3 A4 c4)) zBox
  have BK2 := blk_new (w.alloc (vObj v.k v.t v.n v.i v.m A3 c3 A4 c4)) zBox
  rw [World.size_alloc] at BK2
  have HB1 := Aside0.mk hb1
  clear ho hP hv hV hs hL hb1
  go_enter Tryz.func32, Tryz.ntmps32
  go_upto_region 1 with (fail)
  generalize (w.alloc (vObj v.k v.t v.n v.i v.m A3 c3 A4 c4)).alloc zBox = W at BK1 BK2 HB1 ⊢
  obtain ⟨b1, hb1⟩ : ∃ b, w.heap.size = b := ⟨_, rfl⟩
  have Hb1 := Aside0.mk hb1
  rw [hb1] at BK1 BK2 ⊢
  clear hb1
  obtain ⟨y0, y1, y2, y3, y4, -⟩ := cells_5 BK1
  have HK2 := Aside0.mk BK2
  clear BK1 BK2
  obtain ⟨rb, hrb, hcb, hkb⟩ := rowsOfV (HL.out.below HB1.out)
  have HRB := Aside0.mk hrb
  have HCB := Aside0.mk hcb
  have HKB := Aside0.mk hkb
  have E0 := Aside0.mk (litV W v A3 c3 A4 c4)
  have h0 : ([vCells v A3 c3 A4 c4] : List (List Value)).length + l.len ≤ 2097153 := by simp; omega
  clear hrb hcb hkb
  go_wp2_with (at_builtin; (refine Kd.R_append_rows kY (w0 := W) W.heap.size rfl _ _ 41 43 _ 80 rfl Tryz.underlying41 info_val rfl (by decide) (by decide) (.slice (some ⟨W.heap.size, 0, none⟩) 1 1) [vCells v A3 c3 A4 c4] rb Ai l.len ci (fun _ => True) (fun _ => False) (by rfl) (by rfl) E0.out (Kd.C_below HCB.out (below_alloc (Below.refl _ _) _)) (fun _ _ h => h) (fun _ h => h.elim) (fun _ _ => trivial) (below_alloc (Below.refl _ _) _) (below_alloc (Below.refl _ _) _).size (blkV h0) ?_); (intro v3 w3 hR3 hB3 hg3 hat3; obtain ⟨Ax, cx, rfl, hM⟩ := joinedV (x := v.one.app l) (by rw [List.length_append, appV_len, HRB.out]; rfl) (kV_app (a := v.one) rfl hB3 (kV_one (HV.out.below HB1.out)) HKB.out) hR3))
  have HM := Aside0.mk hM
  have HB3 := Aside0.mk (below_step HB1.out hB3)
  have HK3 := Aside0.mk (blk_below HK2.out hB3)
  clear hR3 hB3 hg3 hat3 hM HRB HCB HKB E0 h0 y0 y1 y2 y3 y4 HK2 HB1
  have hml : (v.one.app l).len ≤ 1048577 := by rw [appV_len]; simp [Val.one, Vals.len]; omega
  have HMS := Aside0.mk (appV_sm v.one l (one_fit HF.out) HS.out)
  have hlist : (v.one.app l).list = v :: l.list := by rw [appV_list]; rfl
  have HMF : Aside0 (∀ x, x ∈ (v.one.app l).list → x.fit) := ⟨by
    rw [hlist]
    intro x hx
    rcases List.mem_cons.1 hx with h | h
    · rw [h]; exact HF.out
    · exact HLF.out x h⟩
  have HO2 : Aside0 ((if (v.one.app l).list.all Val.ok = true then meansP path (v.one.app l).list.reverse else .error 2) = o) := ⟨by
    rw [← HO.out, hlist]
    unfold MeansP
    rw [List.all_cons, List.reverse_cons]⟩
  clear hlist HO HL HV HF HS HLF hc hl
  generalize v.one.app l = M at *
  obtain ⟨gd, hgd⟩ : ∃ b, M.list.all Val.ok = b := ⟨_, rfl⟩
  have HGD : Aside0 ((M.drop 0).list.all Val.ok = gd) := ⟨by rw [Vals.drop_zero]; exact hgd⟩
  rw [hgd] at HO2
  clear hgd
  go_loopw [17] (fun s17 wr => ∃ j : Nat, s17 = .int .i64 j ∧ j ≤ M.len ∧ Aside0 ((M.drop j).list.all Val.ok = gd) ∧ Aside0 (Below w3.heap.size w3 wr) ∧ Aside0 (wr.heap[b1 + 1]? = some zObj)) (fun v _ => M.len - (intOf v).toNat)
  case atStart => exact ⟨0, rfl, Nat.zero_le _, HGD, ⟨Below.refl _ _⟩, HK3⟩
  case round =>
    clear HGD HK3
    obtain ⟨j, rfl, hj, HY, HW, HK⟩ := hrel
    have HB := Aside0.mk (below_step HB3.out HW.out)
    cases hd : M.drop j with
    | nil =>
      have h1 := Vals.drop_nil hd
      obtain rfl : j = M.len := by omega
      have hyy := HY.out
      rw [hd] at hyy
      have hgd : gd = true := hyy.symm
      clear hyy hd
      have HO3 : Aside0 (meansP path M.list.reverse = o) := ⟨by have := HO2.out; rw [hgd] at this; exact this⟩
      have hle1 : w.heap.size ≤ b1 + 1 := by have := Hb1.out; omega
      have hfind := rmeans_any path Ap cp M Ax cx wr (RdS.below HP.out HB.out) hp HMS.out hml HMF.out (HM.out.below HW.out)
      clear hgd
      go_wp2_with fail
      refine hfind.mono ?_
      rintro e w4 ⟨hb4, x, kk, E3, f3', E4, f4', rfl, hres⟩
      have K4 := blk_below HK.out hb4
      have hlt : b1 + 1 < wr.heap.size := blk_lt HK.out
      have HB4 := Aside0.mk (below_step HB.out hb4)
      have HRes := Aside0.mk hres
      clear hfind hb4 hres
      obtain ⟨z0, z1, z2, z3, z4, f0, f1, f2, f3, f4⟩ := cells_5 K4
      go_wp2
      refine bodyPost_ret (results_ct rfl _ _ (b1 + 1) 43 #[.int .u8 x.k, .string (bs x.t), .int .i64 x.n, .slice E3 x.i.len f3', .slice E4 x.m.length f4'] (0, 0) _ rfl (put5_blk K4) Tryz.underlying43 rfl (by kernel_rfl)) rfl ?_
      refine ⟨put5_below HB4.out hle1, x, kk, E3, f3', E4, f4', rfl, ((HO3.out ▸ HRes.out).step (fun q hq _ => put5_far (fun e => ?_))).lower HB.out.size⟩
      omega
    | cons k' t' n' i' m' r' =>
      obtain ⟨ad, A3', c3', A4', c4', rfl, y0, y1, y2, y3, y4, hR3, hR4⟩ := (HM.out.below HW.out).at hd
      obtain ⟨h1, h2, _⟩ := Vals.drop_step hd
      have hfx := HMF.out _ (mem_list hd)
      have hbn := below_alloc (Below.refl wr.heap.size wr) (vBox k' t' n' A3' i'.len c3' A4' m'.length c4')
      have BKn := blk_new wr (vBox k' t' n' A3' i'.len c3' A4' m'.length c4')
      have HWn := Aside0.mk (below_step HW.out hbn)
      have HKn := Aside0.mk (blk_below HK.out hbn)
      have hRV : RdV wr ⟨k', t', n', i', m'⟩ A3' c3' A4' c4' := ⟨hR3, hR4⟩
      have HVn := Aside0.mk (hRV.below hbn)
      have HD := Aside0.mk hd
      have H2 := Aside0.mk h2
      have HFx := Aside0.mk hfx
      clear hd h2 hR3 hR4 hbn hRV hfx HB HW HK
      go_upto_region 5 with (fail)
      clear y0 y1 y2 y3 y4
      generalize wr.alloc (vBox k' t' n' A3' i'.len c3' A4' m'.length c4') = W1 at BKn HWn HKn HVn ⊢
      generalize wr.heap.size = gx at BKn ⊢
      obtain ⟨y0, y1, y2, y3, y4, -⟩ := cells_5 BKn
      have hck := rvchk_any ⟨k', t', n', i', m'⟩ A3' c3' A4' c4' W1 HFx.out HVn.out
      go_wp2_with fail
      (with_reducible refine hck.mono ?_)
      rintro e w4 ⟨rfl, hb⟩
      have HW4 := Aside0.mk (below_step HWn.out hb)
      have HK4 := Aside0.mk (blk_below HKn.out hb)
      clear BKn y0 y1 y2 y3 y4 hck hb HWn HKn HVn
      have HY2 : Aside0 ((Val.ok ⟨k', t', n', i', m'⟩ && (M.drop (j + 1)).list.all Val.ok) = gd) := ⟨by rw [← HY.out, HD.out, H2.out]; rfl⟩
      cases hok : Val.ok ⟨k', t', n', i', m'⟩ with
      | true =>
        have HY3 : Aside0 ((M.drop (j + 1)).list.all Val.ok = gd) := ⟨by rw [← HY2.out, hok]; rfl⟩
        clear hok
        go_wp2_with fail
        go_roundw
        case rel => exact ⟨j + 1, by simp, by omega, HY3, HW4, HK4⟩
        case measure => simp [intOf]; omega
      | false =>
        have hgd : gd = false := by rw [← HY2.out, hok]; rfl
        have ho : Except.error 2 = o := by have := HO2.out; rw [hgd] at this; exact this
        subst ho
        have hle1 : w.heap.size ≤ b1 + 1 := by have := Hb1.out; omega
        have hlt : b1 + 1 < w4.heap.size := blk_lt HK4.out
        obtain ⟨z0, z1, z2, z3, z4, f0, f1, f2, f3, f4⟩ := cells_5 HK4.out
        clear hok hgd
        go_wp2
        refine bodyPost_ret (results_ct rfl _ _ (b1 + 1) 43 #[.int .u8 0, .string ⟨#[]⟩, .int .i64 0, .slice none 0 0, .slice none 0 0] (0, 0) _ rfl (put5_blk HK4.out) Tryz.underlying43 rfl (by kernel_rfl)) rfl ?_
        exact ⟨put5_below (below_step HB3.out HW4.out) hle1, Val.zero, 2, none, 0, none, 0, rfl, res9_err 2 _ _⟩
set_option maxHeartbeats 2000000 in
set_option maxRecDepth 100000 in
theorem means_walk (Ap : Option Addr) (cp : Nat) (path : List S) (v : Val) (A3 : Option Addr) (c3 : Nat) (A4 : Option Addr) (c4 : Nat) (l : Vals) (Ai : Option Addr) (ci : Nat) (w : World) (hG : GlobR w)
    (hP : RdS w Ap cp path) (hp : path.length ≤ 1048576) (hv : v.fit) (hV : RdV w v A3 c3 A4 c4) (hs : l.sm) (hL : Vals.Rd w Ai ci l) (hl : l.len ≤ 1048576) (hc : l.cnt ≤ 1048576) :
    Calls Tryz.prog 8 #[.slice Ap path.length cp, vAgg v A3 c3 A4 c4, .slice Ai l.len ci] w fun e w' => e = .returned (.bool true) ∧ Below w.heap.size w w' := by
  obtain ⟨o, ho⟩ : ∃ o, MeansP path v l = o := ⟨_, rfl⟩
  have HOF := Aside0.mk (fun y (h : o = .ok y) => MeansP_fit hv (Vals.list_fit l hs hc) (ho.trans h))
  have hb1 := below_alloc (Below.refl w.heap.size w) (vObj v.k v.t v.n v.i v.m A3 c3 A4 c4)
  have BK1 := blk_new w (vObj v.k v.t v.n v.i v.m A3 c3 A4 c4)
  have HG := Aside0.mk (hG.below hb1)
  have HP := Aside0.mk (RdS.below hP hb1)
  have HV := Aside0.mk (hV.below hb1)
  have HL := Aside0.mk (hL.below hb1)
  have HB1 := Aside0.mk hb1
  have HF := Aside0.mk hv
  have HS := Aside0.mk hs
  clear hG hP hV hL hb1 hv hs
  go_enter Tryz.func8, Tryz.ntmps8
  go_upto_region 1 with (fail)
  generalize w.alloc (vObj v.k v.t v.n v.i v.m A3 c3 A4 c4) = W at BK1 HG HP HV HL HB1 ⊢
  generalize w.heap.size = b1 at BK1 ⊢
  obtain ⟨y0, y1, y2, y3, y4, -⟩ := cells_5 BK1
  have hm := means_any path Ap cp v A3 c3 A4 c4 l Ai ci W HP.out hp HF.out HV.out HS.out hl hc HL.out
  rw [ho] at hm
  go_wp2_with fail
  refine hm.mono ?_
  rintro e W1 hret
  obtain ⟨hb, x, k, E3, f3, E4, f4, rfl, hres⟩ := hret.uni
  have hba := below_step hb (below_alloc (Below.refl W1.heap.size W1) (vObj x.k x.t x.n x.i x.m E3 f3 E4 f4))
  have BX := blk_new W1 (vObj x.k x.t x.n x.i x.m E3 f3 E4 f4)
  have HX := Aside0.mk (hres.1.rd.below (below_alloc (Below.refl W1.heap.size W1) (vObj x.k x.t x.n x.i x.m E3 f3 E4 f4)))
  have HRes := Aside0.mk hres
  have HG2 := Aside0.mk (HG.out.below hba)
  have HP2 := Aside0.mk (RdS.below HP.out hba)
  have HV2 := Aside0.mk (HV.out.below hba)
  have HL2 := Aside0.mk (HL.out.below hba)
  have HB2 := Aside0.mk (below_step HB1.out hba)
  have BK2 := blk_below BK1 hba
  clear y0 y1 y2 y3 y4 hm hret hb hba hres BK1 HG HP HV HL HB1
  go_upto_region 2 with (fail)
  generalize W1.alloc (vObj x.k x.t x.n x.i x.m E3 f3 E4 f4) = W2 at BX HX HG2 HP2 HV2 HL2 HB2 BK2 ⊢
  generalize W1.heap.size = bx at BX ⊢
  obtain ⟨y0, y1, y2, y3, y4, -⟩ := cells_5 BK2
  have HBX := Aside0.mk BX
  have hm := rMeans_any Ap cp path v A3 c3 A4 c4 l Ai ci W2 HP2.out hp HF.out HV2.out HS.out HL2.out hl hc
  rw [ho] at hm
  clear BX
  go_wp2_with fail
  refine hm.mono ?_
  rintro e W3 ⟨hb, x2, k2, F3, g3, F4, g4, rfl, hres2⟩
  obtain ⟨rfl, rfl⟩ := same_res HRes.out hres2
  have hba := below_step hb (below_alloc (Below.refl W3.heap.size W3) (vObj x2.k x2.t x2.n x2.i x2.m F3 g3 F4 g4))
  have BY := blk_new W3 (vObj x2.k x2.t x2.n x2.i x2.m F3 g3 F4 g4)
  have HY := Aside0.mk (hres2.1.rd.below (below_alloc (Below.refl W3.heap.size W3) (vObj x2.k x2.t x2.n x2.i x2.m F3 g3 F4 g4)))
  have HX4 := Aside0.mk (HX.out.below hba)
  have HG4 := Aside0.mk (HG2.out.below hba)
  have HB4 := Aside0.mk (below_step HB2.out hba)
  have BX4 := blk_below HBX.out hba
  have HXF := Aside0.mk (res_fit HOF.out HRes.out)
  clear y0 y1 y2 y3 y4 hm hb hba hres2 BK2 HG2 HP2 HV2 HL2 HB2 HX HBX HRes
  go_upto_region 3 with (fail)
  generalize W3.alloc (vObj x2.k x2.t x2.n x2.i x2.m F3 g3 F4 g4) = W4 at BY HY HX4 HG4 HB4 BX4 ⊢
  generalize W3.heap.size = bY at BY ⊢
  go_wp2_with fail
  refine (lives14_any W4 HG4.out).mono ?_
  rintro e W5 ⟨rfl, hb⟩
  obtain ⟨y0, y1, y2, y3, y4, -⟩ := cells_5 (blk_below BX4 hb)
  obtain ⟨z0, z1, z2, z3, z4, -⟩ := cells_5 (blk_below BY hb)
  have hsm := rvsame_any x2 E3 f3 E4 f4 F3 g3 F4 g4 W5 HXF.out (HX4.out.below hb) (HY.out.below hb)
  have HB5 := Aside0.mk (below_step HB4.out hb)
  clear hb BX4 BY HB4
  go_wp2_with fail
  refine hsm.mono ?_
  rintro e W6 ⟨rfl, hb⟩
  have HB6 := Aside0.mk (below_step HB5.out hb)
  clear hb hsm
  go_wp2
  go_ret
  exact ⟨rfl, HB6.out⟩
end Go.Proofs.YtniibpndgcndbaaGreatDoor.Tpl
namespace Go.Proofs.YtniibpndgcndbaaGreatDoor.Tpl
open Go.RowKit Go.ChangeShapes Go.WideShapes Go.Proofs.YtniibpndgcndbaaGreatDoor.PB Go.Proofs.YtniibpndgcndbaaGreatDoorW.PrintWords
section
variable {H : Type} {enc : TypeId × Value → H} {W : World}
theorem bulk_strs (ss : List ByteArray) : (ss.length ≤ Rows.uptoBulkAll (strs (H := H) ss)) ∧ ∀ s ∈ ss, s.size ≤ Rows.uptoBulkAll (strs (H := H) ss) := by
  induction ss with
  | nil => exact ⟨Nat.zero_le _, fun _ h => by cases h⟩
  | cons s ss ih =>
    have e : Rows.uptoBulkAll (strs (H := H) (s :: ss)) = (s.size + 1) + Rows.uptoBulkAll (strs (H := H) ss) := by
      show Rows.uptoBulkAll (DataW.lit (.string s.data.toList) :: strs ss) = _
      simp only [Rows.uptoBulkAll, Rows.uptoBulk, Array.length_toList]
      rfl
    rw [e]
    refine ⟨by simp only [List.length_cons]; omega, fun x hx => ?_⟩
    rcases List.mem_cons.1 hx with rfl | hx
    · omega
    · have := ih.2 x hx; omega
theorem cells_strs : Tryz.prog.cellsOf 9 = 1 := by kernel_rfl
theorem cells_node : Tryz.prog.cellsOf 37 = 5 := by kernel_rfl
theorem cells_kind : Tryz.prog.cellsOf 35 = 1 := by kernel_rfl
theorem cells_names : Tryz.prog.cellsOf 23 = 1 := by kernel_rfl
theorem cells_nodes : Tryz.prog.cellsOf 22 = 1 := by kernel_rfl
theorem under_kind : Tryz.prog.underlying 35 = some (.int .u8) := by kernel_rfl
theorem bs_toList (s : ByteArray) : bs s.data.toList = s := by cases s; simp [bs]
theorem open_names {fuel : Nat} {cs : List Value} {x : DataW H × List MemPlace} (h : DataW.trod enc Tryz.prog W 0 (fun _ => true) true fuel 23 cs = some x) :
    ∃ A c names, cs = [.slice A names.length c] ∧ RdS W A c names ∧ names.length ≤ Rows.uptoBulk x.1 ∧ ∀ s ∈ names, s.length ≤ Rows.uptoBulk x.1 := by
  rcases open_strings Tryz.underlying23 Tryz.underlying9 cells_strs h with ⟨rfl, rfl⟩ | ⟨a, len, cap, ss, rfl, _, hl, hm, hz, rfl, hcell, hsz⟩
  · exact ⟨none, 0, [], rfl, ⟨⟨rfl, Nat.zero_le _, fun h => absurd h (by simp)⟩, Nat.le_refl _⟩, Nat.zero_le _, fun _ h => by cases h⟩
  · have hz' : ss.length = cap := by simpa using hz
    have hlen : (ss.take len).length = len := by simp; omega
    obtain ⟨b1, b2⟩ := bulk_strs (H := H) (ss.take len)
    have hb : Rows.uptoBulkAll (strs (H := H) (ss.take len)) ≤ Rows.uptoBulk (.slice (strs (H := H) (ss.take len)) (strs (ss.drop len))) := by simp only [Rows.uptoBulk]; omega
    have hmap : ((ss.take len).map (fun s => s.data.toList)).map bs = ss.take len := by
      rw [List.map_map]
      conv => rhs; rw [← List.map_id (ss.take len)]
      exact List.map_congr_left fun s _ => bs_toList s
    refine ⟨some a, cap, (ss.take len).map (fun s => s.data.toList), by rw [List.length_map, hlen], ⟨?_, by rw [List.length_map, hlen]; exact hl⟩, by simp only [List.length_map]; omega, ?_⟩
    · rw [hmap]
      refine ⟨by simp, by simp only [List.length_map, hlen]; unfold maxLen at hm; omega, fun _ => ⟨a, rfl, fun j p hp => ⟨[.string p], rfl, rfl, fun i u hu => ?_⟩⟩⟩
      have hj : j < len := by have := (List.getElem?_eq_some_iff.1 hp).1; omega
      obtain ⟨rfl, rfl⟩ : i = 0 ∧ .string p = u := by cases i with | zero => exact ⟨rfl, by simpa using hu⟩ | succ i => simp at hu
      have hc := hcell j (by omega)
      rw [List.getElem?_take, if_pos hj] at hp
      rw [List.getD_eq_getElem?_getD, hp] at hc
      show W.cell? (a.add (j * 1 + 0)) = _
      rw [Nat.mul_one]
      exact hc
    · intro s hs
      obtain ⟨s', hs', rfl⟩ := List.mem_map.1 hs
      have := b2 s' hs'
      show s'.data.toList.length ≤ _
      rw [Array.length_toList]
      exact Nat.le_trans (show s'.data.size ≤ _ from this) hb
theorem five {α : Type} {l : List α} (h : l.length = 5) : ∃ a b c d e, l = [a, b, c, d, e] :=
  match l, h with | [a, b, c, d, e], _ => ⟨a, b, c, d, e, rfl⟩
def Elem (W : World) (ad : Addr) (j : Nat) (y : DataW H) : Prop :=
  ∃ k t p a b, (∃ c, c.length = 5 ∧ kN.K W ⟨(k : Nat), bs t, p.map bs, Nodes.of a, Nodes.of b⟩ c ∧ ∀ i u, c[i]? = some u → W.cell? (ad.add (j * 5 + i)) = some u) ∧
    (Rows.uptoBulk y ≤ 1048576 → (Nodes.cons k t p a b .nil).sm) ∧ 1 + a.cnt + b.cnt ≤ Rows.uptoBulk y
theorem gather {ad : Addr} : ∀ (ys : List (DataW H)) (o : Nat), (∀ j y, ys[j]? = some y → Elem W ad (o + j) y) →
    ∃ l : Nodes, l.len = ys.length ∧ (∀ j x, l.of[j]? = some x → ∃ c, c.length = 5 ∧ kN.K W x c ∧ ∀ i u, c[i]? = some u → W.cell? (ad.add ((o + j) * 5 + i)) = some u) ∧
      (Rows.uptoBulkAll ys ≤ 1048576 → l.sm) ∧ l.cnt ≤ Rows.uptoBulkAll ys := by
  intro ys
  induction ys with
  | nil => exact fun o _ => ⟨.nil, rfl, fun j x h => by simp [Nodes.of] at h, fun _ => trivial, Nat.zero_le _⟩
  | cons y ys ih =>
    intro o h
    obtain ⟨r, h1, h2, h3, h4⟩ := ih (o + 1) (fun j z hz => by have := h (j + 1) z (by simpa using hz); rwa [show o + (j + 1) = o + 1 + j by omega] at this)
    obtain ⟨k, t, p, a, b, hc, hs, hn⟩ := h 0 y rfl
    refine ⟨.cons k t p a b r, by simp [Nodes.len, h1], ?_, ?_, ?_⟩
    · intro j x hx
      cases j with
      | zero =>
        have : (⟨(k : Nat), bs t, p.map bs, Nodes.of a, Nodes.of b⟩ : SN) = x := by simpa [Nodes.of] using hx
        subst this
        exact hc
      | succ j =>
        have := h2 j x (by simpa [Nodes.of] using hx)
        rwa [show o + 1 + j = o + (j + 1) by omega] at this
    · intro hb
      simp only [Rows.uptoBulkAll] at hb
      obtain ⟨g1, g2, g3, g4, g5, g6, g7, g8, _⟩ := hs (by omega)
      exact ⟨g1, g2, g3, g4, g5, g6, g7, g8, h3 (by omega)⟩
    · simp only [Rows.uptoBulkAll, Nodes.cnt]
      omega
theorem cnt_len (l : Nodes) : l.len ≤ l.cnt := by
  induction l with
  | nil => exact Nat.le_refl _
  | cons k t p a b r _ _ ih => simp only [Nodes.len, Nodes.cnt]; omega
theorem open_nodes : ∀ (fuel : Nat) (cs : List Value) (x : DataW H × List MemPlace), DataW.trod enc Tryz.prog W 0 (fun _ => true) true fuel 22 cs = some x →
    ∃ A c l, cs = [.slice A (Nodes.len l) c] ∧ Nodes.Rd W A c l ∧ (Rows.uptoBulk x.1 ≤ 1048576 → l.sm) ∧ l.cnt + 1 ≤ Rows.uptoBulk x.1 := by
  intro fuel
  induction fuel using Nat.strongRecOn with
  | ind fuel ih =>
  intro cs x h
  rcases DataW.trod_slice Tryz.underlying22 h with ⟨rfl, rfl⟩ | ⟨ad, len, cap, elems, rest, n, rfl, rfl, rfl, _, hl, hm, hlen, hel, _, _⟩
  · exact ⟨none, 0, .nil, rfl, ⟨⟨rfl, Nat.zero_le _, fun h => absurd h (by simp [Nodes.len])⟩, Nat.le_refl _⟩, fun _ => trivial, Nat.le_refl _⟩
  · have each : ∀ j y, (elems.map (·.1))[j]? = some y → Elem W ad (0 + j) y := by
      intro j y hy
      rw [List.getElem?_map] at hy
      obtain ⟨z, hz, rfl⟩ := Option.map_eq_some_iff.1 hy
      have hj : j < len := by have := (List.getElem?_eq_some_iff.1 hz).1; omega
      have hb := hel j hj
      rw [hz, cells_node, Option.bind_eq_some_iff] at hb
      obtain ⟨c, hc, hd⟩ := hb
      obtain ⟨_, hc5, hcell⟩ := World.cells?_some hc
      obtain ⟨xs, m, rfl, rfl, _, hxs, hf⟩ := DataW.trod_struct Tryz.underlying37 hd
      obtain ⟨y0, y1, y2, y3, y4, rfl⟩ := five hxs
      obtain ⟨v0, v1, v2, v3, v4, rfl⟩ := five hc5
      have f0 := hf 0 _ rfl
      have f1 := hf 1 _ rfl
      have f2 := hf 2 _ rfl
      have f3 := hf 3 _ rfl
      have f4 := hf 4 _ rfl
      simp only [List.getElem_toArray, List.getElem_cons_zero, List.getElem_cons_succ, cells_kind] at f0
      simp only [List.getElem_toArray, List.getElem_cons_zero, List.getElem_cons_succ, cells_strs] at f1
      simp only [List.getElem_toArray, List.getElem_cons_zero, List.getElem_cons_succ, cells_names] at f2
      simp only [List.getElem_toArray, List.getElem_cons_zero, List.getElem_cons_succ, cells_nodes] at f3 f4
      obtain ⟨k, e0, rfl, hk⟩ := DataW.trod_int under_kind f0
      obtain ⟨s, e1, rfl, hs⟩ := DataW.trod_string Tryz.underlying9 f1
      obtain ⟨A2, c2, p, e2, hp, lp, sp⟩ := open_names f2
      obtain ⟨A3, c3, a, e3, ha, sa, na⟩ := ih m (by omega) _ _ f3
      obtain ⟨A4, c4, b, e4, hb, sb, nb⟩ := ih m (by omega) _ _ f4
      simp only [List.drop, List.take, List.cons.injEq, and_true] at e0 e1 e2 e3 e4
      subst e0 e1 e2 e3 e4
      have hk' : 0 ≤ k ∧ k < 256 := by
        have h1 : IntKind.u8.min = 0 := by decide
        have h2 : IntKind.u8.max = 255 := by decide
        have := hk
        simp [Lit.wf, h1, h2] at this
        omega
      obtain ⟨k, rfl⟩ : ∃ q : Nat, k = q := ⟨k.toNat, by omega⟩
      refine ⟨k, s.data.toList, p, a, b, ⟨[.int .u8 k, .string s, .slice A2 p.length c2, .slice A3 (Nodes.len a) c3, .slice A4 (Nodes.len b) c4], rfl, ?_, fun i u hu => ?_⟩, ?_, ?_⟩
      · rw [bs_toList]
        have := k37_mk W (⟨(k : Nat), s, p.map bs, Nodes.of a, Nodes.of b⟩ : SN) (A2 := A2) (c2 := c2) (by simpa using hp.2) (by simpa using hp.1) (A3 := A3) (c3 := c3) (by simpa [Nodes.of_len] using ha.2) (by simpa [Nodes.of_len] using ha.1) (A4 := A4) (c4 := c4) (by simpa [Nodes.of_len] using hb.2) (by simpa [Nodes.of_len] using hb.1)
        simpa [Nodes.of_len] using this
      · have hi : i < 5 := by have := (List.getElem?_eq_some_iff.1 hu).1; simpa using this
        rw [Nat.zero_add, ← hu, ← hcell i hi, Go.Deep.add_add]
      · intro hbk
        simp only [List.map_cons, List.map_nil, Rows.uptoBulk, Rows.uptoBulkAll] at hbk
        refine ⟨by omega, by omega, by omega, fun q hq => ?_, ?_, ?_, sa (by omega), sb (by omega), trivial⟩
        · have := sp q hq; omega
        · have := cnt_len a; omega
        · have := cnt_len b; omega
      · simp only [List.map_cons, List.map_nil, Rows.uptoBulk, Rows.uptoBulkAll]
        omega
    obtain ⟨l, h1, h2, h3, h4⟩ := gather (elems.map (·.1)) 0 each
    have h1' : l.len = len := by rw [h1, List.length_map, hlen]
    refine ⟨some ad, cap, l, by rw [h1'], ⟨⟨Nodes.of_len l, by rw [h1']; unfold maxLen at hm; omega, fun _ => ⟨ad, rfl, fun j p hp => ?_⟩⟩, by omega⟩, ?_, ?_⟩
    · have := h2 j p hp
      rwa [Nat.zero_add] at this
    · intro hb
      simp only [Rows.uptoBulk] at hb
      exact h3 (by omega)
    · simp only [Rows.uptoBulk]
      omega
end
end Go.Proofs.YtniibpndgcndbaaGreatDoor.Tpl
namespace Go.Proofs.YtniibpndgcndbaaGreatDoor.Tpl
open Go.RowKit Go.ChangeShapes Go.WideShapes Go.Proofs.YtniibpndgcndbaaGreatDoor.PB Go.Proofs.YtniibpndgcndbaaGreatDoorW.PrintWords
section
variable {H : Type} {enc : TypeId × Value → H} {W : World}
theorem cells_val : Tryz.prog.cellsOf 43 = 5 := by kernel_rfl
theorem cells_vkind : Tryz.prog.cellsOf 40 = 1 := by kernel_rfl
theorem cells_i64 : Tryz.prog.cellsOf 2 = 1 := by kernel_rfl
theorem cells_vals : Tryz.prog.cellsOf 41 = 1 := by kernel_rfl
theorem under_vkind : Tryz.prog.underlying 40 = some (.int .u8) := by kernel_rfl
def ElemV (W : World) (ad : Addr) (j : Nat) (y : DataW H) : Prop :=
  ∃ k t n i m, (∃ c, c.length = 5 ∧ kV.K W ⟨(k : Nat), bs t, n, Vals.of i, m.map bs⟩ c ∧ ∀ q u, c[q]? = some u → W.cell? (ad.add (j * 5 + q)) = some u) ∧
    (Rows.uptoBulk y ≤ 1048576 → (Vals.cons k t n i m .nil).sm) ∧ 1 + i.cnt ≤ Rows.uptoBulk y
theorem gatherV {ad : Addr} : ∀ (ys : List (DataW H)) (o : Nat), (∀ j y, ys[j]? = some y → ElemV W ad (o + j) y) →
    ∃ l : Vals, l.len = ys.length ∧ (∀ j x, l.of[j]? = some x → ∃ c, c.length = 5 ∧ kV.K W x c ∧ ∀ i u, c[i]? = some u → W.cell? (ad.add ((o + j) * 5 + i)) = some u) ∧
      (Rows.uptoBulkAll ys ≤ 1048576 → l.sm) ∧ l.cnt ≤ Rows.uptoBulkAll ys := by
  intro ys
  induction ys with
  | nil => exact fun o _ => ⟨.nil, rfl, fun j x h => by simp [Vals.of] at h, fun _ => trivial, Nat.zero_le _⟩
  | cons y ys ih =>
    intro o h
    obtain ⟨r, h1, h2, h3, h4⟩ := ih (o + 1) (fun j z hz => by have := h (j + 1) z (by simpa using hz); rwa [show o + (j + 1) = o + 1 + j by omega] at this)
    obtain ⟨k, t, n, i, m, hc, hs, hn⟩ := h 0 y rfl
    refine ⟨.cons k t n i m r, by simp [Vals.len, h1], ?_, ?_, ?_⟩
    · intro j x hx
      cases j with
      | zero =>
        have : (⟨(k : Nat), bs t, n, Vals.of i, m.map bs⟩ : SV) = x := by simpa [Vals.of] using hx
        subst this
        exact hc
      | succ j =>
        have := h2 j x (by simpa [Vals.of] using hx)
        rwa [show o + 1 + j = o + (j + 1) by omega] at this
    · intro hb
      simp only [Rows.uptoBulkAll] at hb
      obtain ⟨g1, g2, g3, g4, g5, g6, g7, _⟩ := hs (by omega)
      exact ⟨g1, g2, g3, g4, g5, g6, g7, h3 (by omega)⟩
    · simp only [Rows.uptoBulkAll, Vals.cnt]
      omega
theorem cnt_lenV (l : Vals) : l.len ≤ l.cnt := by
  induction l with
  | nil => exact Nat.le_refl _
  | cons k t n i m r _ ih => simp only [Vals.len, Vals.cnt]; omega
theorem open_cells (m0 : Nat) (ih : ∀ (cs : List Value) (x : DataW H × List MemPlace), DataW.trod enc Tryz.prog W 0 (fun _ => true) true m0 41 cs = some x → ∃ A c l, cs = [.slice A (Vals.len l) c] ∧ Vals.Rd W A c l ∧ (Rows.uptoBulk x.1 ≤ 1048576 → l.sm) ∧ l.cnt + 1 ≤ Rows.uptoBulk x.1)
    (xs : List (DataW H × List MemPlace)) (c : List Value) (hxs : xs.length = 5) (hc5 : c.length = 5)
    (f0 : DataW.trod enc Tryz.prog W 0 (fun _ => true) true m0 40 ((c.drop 0).take 1) = xs[0]?) (f1 : DataW.trod enc Tryz.prog W 0 (fun _ => true) true m0 9 ((c.drop 1).take 1) = xs[1]?) (f2 : DataW.trod enc Tryz.prog W 0 (fun _ => true) true m0 2 ((c.drop 2).take 1) = xs[2]?)
    (f3 : DataW.trod enc Tryz.prog W 0 (fun _ => true) true m0 41 ((c.drop 3).take 1) = xs[3]?) (f4 : DataW.trod enc Tryz.prog W 0 (fun _ => true) true m0 23 ((c.drop 4).take 1) = xs[4]?) :
    ∃ (v : Val) (A3 : Option Addr) (c3 : Nat) (A4 : Option Addr) (c4 : Nat), c = [.int .u8 v.k, .string (bs v.t), .int .i64 v.n, .slice A3 v.i.len c3, .slice A4 v.m.length c4] ∧ RdV W v A3 c3 A4 c4 ∧ (Rows.uptoBulkAll (xs.map (·.1)) ≤ 1048576 → v.sm) ∧ v.i.cnt ≤ Rows.uptoBulkAll (xs.map (·.1)) := by
  obtain ⟨y0, y1, y2, y3, y4, rfl⟩ := five hxs
  obtain ⟨v0, v1, v2, v3, v4, rfl⟩ := five hc5
  simp only [List.getElem?_cons_zero, List.getElem?_cons_succ] at f0 f1 f2 f3 f4
  obtain ⟨k, e0, rfl, hk⟩ := DataW.trod_int under_vkind f0
  obtain ⟨s, e1, rfl, hs⟩ := DataW.trod_string Tryz.underlying9 f1
  obtain ⟨n, e2, rfl, hn⟩ := DataW.trod_int Tryz.underlying2 f2
  obtain ⟨A3, c3, i, e3, hi, si, ni⟩ := ih _ _ f3
  obtain ⟨A4, c4, m, e4, hm, lm, sm⟩ := open_names f4
  simp only [List.drop, List.take, List.cons.injEq, and_true] at e0 e1 e2 e3 e4
  subst e0 e1 e2 e3 e4
  have hk' : 0 ≤ k ∧ k < 256 := by
    have h1 : IntKind.u8.min = 0 := by decide
    have h2 : IntKind.u8.max = 255 := by decide
    have := hk
    simp [Lit.wf, h1, h2] at this
    omega
  have hn' : -9223372036854775808 ≤ n ∧ n ≤ 9223372036854775807 := by
    have h1 : IntKind.i64.min = -9223372036854775808 := by decide
    have h2 : IntKind.i64.max = 9223372036854775807 := by decide
    have := hn
    simp [Lit.wf, h1, h2] at this
    omega
  obtain ⟨k, rfl⟩ : ∃ q : Nat, k = q := ⟨k.toNat, by omega⟩
  refine ⟨⟨k, s.data.toList, n, i, m⟩, A3, c3, A4, c4, ?_, ⟨hi, hm⟩, ?_, ?_⟩
  · simp only [bs_toList]
  · intro hbk
    simp only [List.map_cons, List.map_nil, Rows.uptoBulk, Rows.uptoBulkAll] at hbk
    refine ⟨by show k < 256; omega, by show s.data.toList.length ≤ 1048576; omega, hn', ?_, by show m.length ≤ 1048576; omega, fun q hq => ?_, si (by omega), trivial⟩
    · have := cnt_lenV i; show i.len ≤ 1048576; omega
    · have := sm q hq; omega
  · simp only [List.map_cons, List.map_nil, Rows.uptoBulk, Rows.uptoBulkAll]
    show i.cnt ≤ _
    omega
theorem open_vals : ∀ (fuel : Nat) (cs : List Value) (x : DataW H × List MemPlace), DataW.trod enc Tryz.prog W 0 (fun _ => true) true fuel 41 cs = some x →
    ∃ A c l, cs = [.slice A (Vals.len l) c] ∧ Vals.Rd W A c l ∧ (Rows.uptoBulk x.1 ≤ 1048576 → l.sm) ∧ l.cnt + 1 ≤ Rows.uptoBulk x.1 := by
  intro fuel
  induction fuel using Nat.strongRecOn with
  | ind fuel ih =>
  intro cs x h
  rcases DataW.trod_slice Tryz.underlying41 h with ⟨rfl, rfl⟩ | ⟨ad, len, cap, elems, rest, n, rfl, rfl, rfl, _, hl, hm, hlen, hel, _, _⟩
  · exact ⟨none, 0, .nil, rfl, ⟨⟨rfl, Nat.zero_le _, fun h => absurd h (by simp [Vals.len])⟩, Nat.le_refl _⟩, fun _ => trivial, Nat.le_refl _⟩
  · have each : ∀ j y, (elems.map (·.1))[j]? = some y → ElemV W ad (0 + j) y := by
      intro j y hy
      rw [List.getElem?_map] at hy
      obtain ⟨z, hz, rfl⟩ := Option.map_eq_some_iff.1 hy
      have hj : j < len := by have := (List.getElem?_eq_some_iff.1 hz).1; omega
      have hb := hel j hj
      rw [hz, cells_val, Option.bind_eq_some_iff] at hb
      obtain ⟨c, hc, hd⟩ := hb
      obtain ⟨_, hc5, hcell⟩ := World.cells?_some hc
      obtain ⟨xs, m, rfl, rfl, _, hxs, hf⟩ := DataW.trod_struct Tryz.underlying43 hd
      have f0 := hf 0 _ rfl
      have f1 := hf 1 _ rfl
      have f2 := hf 2 _ rfl
      have f3 := hf 3 _ rfl
      have f4 := hf 4 _ rfl
      simp only [List.getElem_toArray, List.getElem_cons_zero, List.getElem_cons_succ, cells_vkind] at f0
      simp only [List.getElem_toArray, List.getElem_cons_zero, List.getElem_cons_succ, cells_strs] at f1
      simp only [List.getElem_toArray, List.getElem_cons_zero, List.getElem_cons_succ, cells_i64] at f2
      simp only [List.getElem_toArray, List.getElem_cons_zero, List.getElem_cons_succ, cells_vals] at f3
      simp only [List.getElem_toArray, List.getElem_cons_zero, List.getElem_cons_succ, cells_names] at f4
      obtain ⟨v, A3, c3, A4, c4, rfl, hR, hs, hn⟩ := open_cells m (fun cs x h => ih m (by omega) cs x h) xs c hxs hc5 f0 f1 f2 f3 f4
      refine ⟨v.k, v.t, v.n, v.i, v.m, ⟨[.int .u8 v.k, .string (bs v.t), .int .i64 v.n, .slice A3 v.i.len c3, .slice A4 v.m.length c4], rfl, ?_, fun q u hu => ?_⟩, ?_, ?_⟩
      · have := k43_mk W (⟨(v.k : Nat), bs v.t, v.n, Vals.of v.i, v.m.map bs⟩ : SV) (A3 := A3) (c3 := c3) (by simpa [Vals.of_len] using hR.1.2) (by simpa [Vals.of_len] using hR.1.1) (A4 := A4) (c4 := c4) (by simpa using hR.2.2) (by simpa using hR.2.1)
        simpa [Vals.of_len] using this
      · have hi : q < 5 := by have := (List.getElem?_eq_some_iff.1 hu).1; simpa using this
        rw [Nat.zero_add, ← hu, ← hcell q hi, Go.Deep.add_add]
      · intro hbk
        exact hs (by simp only [Rows.uptoBulk] at hbk; omega)
      · simp only [Rows.uptoBulk]
        omega
    obtain ⟨l, h1, h2, h3, h4⟩ := gatherV (elems.map (·.1)) 0 each
    have h1' : l.len = len := by rw [h1, List.length_map, hlen]
    refine ⟨some ad, cap, l, by rw [h1'], ⟨⟨Vals.of_len l, by rw [h1']; unfold maxLen at hm; omega, fun _ => ⟨ad, rfl, fun j p hp => ?_⟩⟩, by omega⟩, ?_, ?_⟩
    · have := h2 j p hp
      rwa [Nat.zero_add] at this
    · intro hb
      simp only [Rows.uptoBulk] at hb
      exact h3 (by omega)
    · simp only [Rows.uptoBulk]
      omega
theorem open_val {fuel : Nat} {cs : List Value} {x : DataW H × List MemPlace} (h : DataW.trod enc Tryz.prog W 0 (fun _ => true) true fuel 43 cs = some x) :
    ∃ (v : Val) (A3 : Option Addr) (c3 : Nat) (A4 : Option Addr) (c4 : Nat), cs = [.int .u8 v.k, .string (bs v.t), .int .i64 v.n, .slice A3 v.i.len c3, .slice A4 v.m.length c4] ∧ RdV W v A3 c3 A4 c4 ∧ (Rows.uptoBulk x.1 ≤ 1048576 → v.fit) := by
  obtain ⟨xs, m, _, rfl, hl, hxs, hf⟩ := DataW.trod_struct Tryz.underlying43 h
  rw [cells_val] at hl
  have f0 := hf 0 _ rfl
  have f1 := hf 1 _ rfl
  have f2 := hf 2 _ rfl
  have f3 := hf 3 _ rfl
  have f4 := hf 4 _ rfl
  simp only [List.getElem_toArray, List.getElem_cons_zero, List.getElem_cons_succ, cells_vkind] at f0
  simp only [List.getElem_toArray, List.getElem_cons_zero, List.getElem_cons_succ, cells_strs] at f1
  simp only [List.getElem_toArray, List.getElem_cons_zero, List.getElem_cons_succ, cells_i64] at f2
  simp only [List.getElem_toArray, List.getElem_cons_zero, List.getElem_cons_succ, cells_vals] at f3
  simp only [List.getElem_toArray, List.getElem_cons_zero, List.getElem_cons_succ, cells_names] at f4
  obtain ⟨v, A3, c3, A4, c4, rfl, hR, hs, hn⟩ := open_cells m (fun cs x h => open_vals m cs x h) xs cs hxs hl f0 f1 f2 f3 f4
  refine ⟨v, A3, c3, A4, c4, rfl, hR, fun hb => ?_⟩
  simp only [Rows.uptoBulk] at hb
  exact ⟨hs (by omega), by omega⟩
end
end Go.Proofs.YtniibpndgcndbaaGreatDoor.Tpl
namespace Go.Proofs.YtniibpndgcndbaaGreatDoor.Tpl
open Go.RowKit
theorem gErr : Tryz.prog.globalNamed "bellman/tree.errPair" = some 1 := by kernel_rfl
theorem tErr : (Tryz.prog.globals[1]?).map (·.type) = some 83 := by kernel_rfl
theorem starErr : "*" ++ "errors.errorString" = "*errors.errorString" := by decide
theorem rowErr (u : TypeId) (h : Tryz.prog.typeName? 3 u = some "*errors.errorString") : u = 266 :=
  typeName_ptr_named (nm := "errors.errorString") (by rw [starErr]; kernel_rfl) (by kernel_rfl) (by decide) u (by rw [starErr]; exact h)
theorem glob_of_sentinel {W : World} {r : List (String × DataW Unit)} (hW : W.ShapedOpen Tryz.prog) (h : laidMet Tryz.prog (("bellman/tree.errPair", Rows.laid_bellman_tree_errPair) :: r) W) : Glob W := by
  refine ⟨cell_of_shapedOpen_int (g := 3) (zero := #[.int .i64 0]) (t := 3) hW (of_decide_eq_true (by kernel_rfl)) (by kernel_rfl) rfl (by kernel_rfl) (by kernel_rfl) Tryz.underlying3, ?_⟩
  obtain ⟨a, s, hv, _⟩ := laid_sentinel (n := "bellman/tree.errPair") (nm := "*errors.errorString") h gErr tErr Tryz.underlying83 rowErr Tryz.underlying266 Tryz.underlying284 rfl rfl Tryz.underlying9 (by kernel_rfl) (by kernel_rfl)
  exact ⟨a, by simpa using World.var?_cell gErr hv 0⟩
end Go.Proofs.YtniibpndgcndbaaGreatDoor.Tpl
namespace Go.Proofs.YtniibpndgcndbaaGreatDoor.Tpl
open Go.RowKit
def rendLaid : List (String × DataW Unit) := [("math/bits.deBruijn32tab", Rows.laid_math_bits_deBruijn32tab), ("math/bits.deBruijn64tab", Rows.laid_math_bits_deBruijn64tab), ("internal/strconv.uint64pow10", Rows.laid_internal_strconv_uint64pow10), ("unicode/utf8.acceptRanges", Rows.laid_unicode_utf8_acceptRanges), ("errors.errorType", Rows.laid_errors_errorType), ("bellman/tree.errPair", Rows.laid_bellman_tree_errPair), ("bellman/render.reasons", Rows.laid_bellman_render_reasons), ("unicode/utf8.first", Rows.laid_unicode_utf8_first)]
def rendPlain : List (String × DataW Unit) := [("math/bits.deBruijn32tab", Rows.laid_math_bits_deBruijn32tab), ("math/bits.deBruijn64tab", Rows.laid_math_bits_deBruijn64tab), ("internal/strconv.uint64pow10", Rows.laid_internal_strconv_uint64pow10), ("unicode/utf8.acceptRanges", Rows.laid_unicode_utf8_acceptRanges), ("bellman/tree.errPair", Rows.laid_bellman_tree_errPair), ("bellman/render.reasons", Rows.laid_bellman_render_reasons), ("unicode/utf8.first", Rows.laid_unicode_utf8_first)]
theorem gTyp0 : Tryz.prog.globalNamed "errors.errorType" = some 2 := by kernel_rfl
theorem rtN : (Tryz.prog.cutTypes.find? (·.1 == "internal/reflectlite.rtype")).map (·.2) = some 207 := by kernel_rfl
theorem errRow : ((List.range Tryz.prog.types.size).filter fun t => Tryz.prog.rowNamed t [101, 114, 114, 111, 114]) = [83] := by kernel_rfl
theorem gRea0 : Tryz.prog.globalNamed "bellman/render.reasons" = some 0 := by kernel_rfl
theorem tRea : (Tryz.prog.globals[0]?).map (·.type) = some 122 := by kernel_rfl
theorem tTab : (Tryz.prog.globals[4]?).map (·.type) = some 257 := by kernel_rfl
theorem globR_of_laid {W : World} (hW : W.ShapedOpen Tryz.prog) (h : laidMetH Tryz.prog rendLaid W) : GlobR W := by
  have h' : laidMet Tryz.prog rendPlain W ∧ handlesMet Tryz.prog [("errors.errorType", Rows.laid_errors_errorType)] W := h
  obtain ⟨hp, hh⟩ := h'
  have t2 := laidMet.tail (laidMet.tail hp)
  have t4 := laidMet.tail (laidMet.tail t2)
  have t5 := laidMet.tail t4
  refine ⟨glob_of_sentinel hW t4, ?_, ?_, ?_⟩
  · exact Lib.tabIs_of_head gTabN tTab (n := 20) (e := 158) Tryz.underlying257 Tryz.underlying158 (by kernel_rfl) (by kernel_rfl) t2
  · obtain ⟨name, u, ty, e1, e2, e3, e4, e5⟩ := hh _ (List.mem_singleton.2 rfl)
    have en : name = [101, 114, 114, 111, 114] := (Option.some.inj e1).symm
    subst en
    obtain rfl := Option.some.inj (rtN.symm.trans e2)
    have hm : ty ∈ (List.range Tryz.prog.types.size).filter fun t => Tryz.prog.rowNamed t [101, 114, 114, 111, 114] := List.mem_filter.2 ⟨List.mem_range.2 e3, e4⟩
    rw [errRow] at hm
    obtain rfl := List.mem_singleton.1 hm
    have hx : typeHandle Tryz.prog 83 = .pointer (some ⟨9, 83, none⟩) := by kernel_rfl
    rw [hx] at e5
    unfold GTyp
    simpa using World.var?_cell gTyp0 e5 0
  · have ht : Lib.TabIs Tryz.prog W "bellman/render.reasons" .i64 [3, 7, 12] := Lib.tabIs_of_head gRea0 tRea (n := 3) (e := 24) Tryz.underlying122 Tryz.underlying24 (by kernel_rfl) (by kernel_rfl) t5
    exact ⟨ht.cell gRea0 0 (by decide), ht.cell gRea0 1 (by decide), ht.cell gRea0 2 (by decide)⟩
noncomputable def rendW0 (os : Os) : World :=
  let w0 := World.holding Tryz.prog os ⟨#[], #[], []⟩
  { w0 with heap := w0.heap.modify 2 fun
      | .cells _ t frozen => .cells #[.iface 207 (.agg #[.pointer (some ⟨9, 83, none⟩)])] t frozen
      | o => o }
noncomputable def rendW (os : Os) : World := (rendW0 os).layVars Tryz.prog rendPlain
theorem rendW_os (os : Os) : (rendW os).os = os := (World.layVars_os _ _ _).trans rfl
theorem rendW_plain (os : Os) (args : Array Value) : laidMet Tryz.prog rendPlain ((rendW os).forCall (fun _ _ => 0) ⟨#[], args, []⟩).memory := by
  have e1 : (rendPlain.filter fun x => (rendPlain.map (·.1)).contains x.1) = rendPlain := List.filter_eq_self.2 fun x hx => List.contains_iff_mem.2 (List.mem_map.2 ⟨x, hx, rfl⟩)
  have e2 : (rendPlain.filter fun x => !(rendPlain.map (·.1)).contains x.1) = [] := List.filter_eq_nil_iff.2 fun x hx => by rw [List.contains_iff_mem.2 (List.mem_map.2 ⟨x, hx, rfl⟩)]; simp
  have h : laidMet Tryz.prog rendPlain (rendW os) := laidMet_layVars (w0 := rendW0 os) (rendPlain.map (·.1)) [] (by rw [e1]; rfl) (by rw [e1]; kernel_rfl) (by rw [e1]; kernel_rfl) (by rw [e2]; exact LaidIn.none)
  exact h.of_heap (by simp [World.memory, World.forCall, Input.heap])
theorem rendW_met (os : Os) (args : Array Value) : laidMetH Tryz.prog rendLaid ((rendW os).forCall (fun _ _ => 0) ⟨#[], args, []⟩).memory :=
  laidMetH_of_parts (rendW_plain os args) (by kernel_rfl)
end Go.Proofs.YtniibpndgcndbaaGreatDoor.Tpl
