/- Part 4 of the proof (texts of this claim, merged in build order; what the claim does not need has been left out). -/
import Derived.Test.YtniibpndgcndbaaGreatDoorVtD3
import Derived.IntWalk
import Derived.LaidHandle
import Derived.LaidMore
import Derived.OpenShut
import Derived.Shelf.Vars
import Derived.SliceStrings
import Derived.Stop.LaidErr
import Derived.Test.YtniibpndgcndbaaGreatDoorRows
set_option linter.unusedVariables false
set_option linter.unusedSimpArgs false
namespace Go.Proofs.YtniibpndgcndbaaGreatDoor.Tpl
open Go.RowKit Go.Proofs Go.Shelf Go.Proofs.YtniibpndgcndbaaGreatDoor.PB Go.Proofs.YtniibpndgcndbaaGreatDoor.Short Go.Proofs.YtniibpndgcndbaaGreatDoorW.PrintWords Go.Proofs.YtniibpndgcndbaaGreatDoorW.PrintLast Go.Proofs.YtniibpndgcndbaaGreatDoorW.PrintMore Nodes
theorem fold_cnt (l : Nodes) : foldP (fun n _ => n + 1) l = l.cnt := by
  unfold foldP
  have : ∀ (xs : List Look) a, xs.foldl (fun n _ => n + 1) a = a + xs.length := by
    intro xs
    induction xs with
    | nil => intro a; rfl
    | cons x r ih => intro a; rw [List.foldl_cons, ih, List.length_cons]; omega
  rw [this, flat_len]; omega
theorem depth_any (l : Nodes) (A : Option Addr) (c : Nat) (w : World) (hG : Glob w) (hs : l.sm) (hR : Rd w A c l) (hl : l.len ≤ 1048576) (hc : l.cnt ≤ 1048576) :
    Calls Tryz.prog 14 #[.slice A l.len c] w fun e w' => e = .returned (.tuple #[.int .i64 (if l.chk = true then (l.depthP : Int) else 0), .int .i64 (if l.chk = true then 0 else 2)]) ∧ Below w.heap.size w w' := by
  have h := folded_any 45 (fun n x => max n x.lv) (enters_of Tryz.func45 (by kernel_rfl) rfl) on_depth (fun m x _ h2 => by omega) l A c w hG hs hR hl hc
  rw [show foldP (fun n x => max n x.lv) l = l.depthP from depth_flat l] at h
  generalize (if l.chk = true then (l.depthP : Int) else 0) = r at *
  generalize (if l.chk = true then (0 : Int) else 2) = r2 at *
  clear hG hs hR
  go_enter Tryz.func14, Tryz.ntmps14
  go_wp2_with fail
  refine h.mono ?_
  rintro e w1 ⟨rfl, hb⟩
  go_wp2
  go_ret2
  exact ⟨rfl, hb⟩
theorem count_any (l : Nodes) (A : Option Addr) (c : Nat) (w : World) (hG : Glob w) (hs : l.sm) (hR : Rd w A c l) (hl : l.len ≤ 1048576) (hc : l.cnt ≤ 1048576) :
    Calls Tryz.prog 16 #[.slice A l.len c] w fun e w' => e = .returned (.tuple #[.int .i64 (if l.chk = true then (l.cnt : Int) else 0), .int .i64 (if l.chk = true then 0 else 2)]) ∧ Below w.heap.size w w' := by
  have h := folded_any 47 (fun n _ => n + 1) (enters_of Tryz.func47 (by kernel_rfl) rfl) on_count (fun m x _ h2 => by omega) l A c w hG hs hR hl hc
  rw [fold_cnt l] at h
  generalize (if l.chk = true then (l.cnt : Int) else 0) = r at *
  generalize (if l.chk = true then (0 : Int) else 2) = r2 at *
  clear hG hs hR
  go_enter Tryz.func16, Tryz.ntmps16
  go_wp2_with fail
  refine h.mono ?_
  rintro e w1 ⟨rfl, hb⟩
  go_wp2
  go_ret2
  exact ⟨rfl, hb⟩
theorem plain_any (l : Nodes) (A : Option Addr) (c : Nat) (w : World) (hG : Glob w) (hs : l.sm) (hR : Rd w A c l) (hl : l.len ≤ 1048576) (hc : l.cnt ≤ 1048576) :
    Calls Tryz.prog 18 #[.slice A l.len c] w fun e w' => e = .returned (.tuple #[.int .i64 (if l.chk = true then (l.plainP : Int) else 0), .int .i64 (if l.chk = true then 0 else 2)]) ∧ Below w.heap.size w w' := by
  have h := folded_any 49 (fun n x => n + x.t.length) (enters_of Tryz.func49 (by kernel_rfl) rfl) on_plain (fun m x h1 _ => by omega) l A c w hG hs hR hl hc
  rw [show foldP (fun n x => n + x.t.length) l = l.plainP from by unfold foldP; rw [plain_flat]; omega] at h
  generalize (if l.chk = true then (l.plainP : Int) else 0) = r at *
  generalize (if l.chk = true then (0 : Int) else 2) = r2 at *
  clear hG hs hR
  go_enter Tryz.func18, Tryz.ntmps18
  go_wp2_with fail
  refine h.mono ?_
  rintro e w1 ⟨rfl, hb⟩
  go_wp2
  go_ret2
  exact ⟨rfl, hb⟩
end Go.Proofs.YtniibpndgcndbaaGreatDoor.Tpl
namespace Go.Proofs.YtniibpndgcndbaaGreatDoor.Tpl
open Go.RowKit Go.Proofs Go.Proofs.YtniibpndgcndbaaGreatDoor.PB Go.Proofs.YtniibpndgcndbaaGreatDoor.Short Go.Proofs.YtniibpndgcndbaaGreatDoorW.PrintWords Go.Proofs.YtniibpndgcndbaaGreatDoorW.PrintLast Go.Proofs.YtniibpndgcndbaaGreatDoorW.PrintMore Nodes
def src1 : S := [123, 123, 101, 97, 99, 104, 32, 105, 116, 101, 109, 115, 125, 125, 123, 123, 116, 104, 105, 115, 46, 97, 125, 125, 123, 123, 98, 125, 125, 33, 123, 123, 101, 110, 100, 125, 125]
def src2 : S := [123, 123, 105, 102, 32, 116, 104, 105, 115, 125, 125, 123, 123, 101, 110, 100, 125, 125]
def sItems : S := [105, 116, 101, 109, 115]
def sB : S := [98]
def sC : S := [99]
def nd1 : Nodes := cons 5 [] [sItems] (cons 2 [] [thisS, [97]] nil nil (cons 2 [] [sB] nil nil (cons 1 [33] [] nil nil nil))) nil nil
def nd2 : Nodes := cons 3 [] [thisS] nil nil nil
def nd3 : Nodes := cons 0 [] [] nil nil nil
theorem parse1 : parseS src1 = .ok nd1 := by kernel_rfl
theorem parse2 : parseS src2 = .ok nd2 := by kernel_rfl
theorem nd1_chk : nd1.chk = true := by kernel_rfl
theorem nd1_roots : rootsOf nd1 = [sB, sItems] := by kernel_rfl
theorem nd1_cnt : nd1.cnt = 4 := by kernel_rfl
theorem nd1_depth : nd1.depthP = 2 := by kernel_rfl
theorem nd1_plain : nd1.plainP = 1 := by kernel_rfl
theorem nd1_this : thisP nd1 = 0 := by kernel_rfl
theorem nd2_this : thisP nd2 = 13 := by kernel_rfl
theorem nd1_only1 : onlyP nd1 [sItems] = 13 := by kernel_rfl
theorem nd1_only3 : onlyP nd1 [sItems, sB, sC] = 0 := by kernel_rfl
theorem nd3_only : onlyP nd3 [] = 2 := by kernel_rfl
theorem nd1_sm : nd1.sm := by simp [nd1, sm, sItems, sB, thisS, len]
theorem nd2_sm : nd2.sm := by simp [nd2, sm, thisS, len]
theorem nd3_sm : nd3.sm := by simp [nd3, sm, len]
theorem same_any (A : Option Addr) (c : Nat) (p : List S) (B : Option Addr) (d : Nat) (q : List S) (w : World) (hp : RdS w A c p) (hq : RdS w B d q) (hl : p.length ≤ 1048576) :
    Calls Tryz.prog 21 #[.slice A p.length c, .slice B q.length d] w fun e w' => e = .returned (.bool (decide (p = q))) ∧ Below w.heap.size w w' := by
  obtain ⟨k, hk⟩ := same_f p q hl
  have h := bellmanref01_SameTexts.calls k A c (p.map bs) B d (q.map bs) _ w (by rw [List.length_map]; exact hp.1) (by rw [List.length_map]; exact hp.2) (by rw [List.length_map]; exact hq.1) (by rw [List.length_map]; exact hq.2) hk
  rw [List.length_map, List.length_map] at h
  refine h.mono ?_
  rintro e w' ⟨rfl, hd⟩
  exact ⟨rfl, hd.below⟩
theorem lit_S (l : List S) (W : World) (hl : l.length ≤ 1048576) : RdS (W.alloc (.cells ((l.map bs).map Value.string).toArray 9)) (some ⟨W.heap.size, 0, none⟩) l.length l := by
  have h := lit_C (l.map bs) W (by rw [List.length_map]; exact hl)
  rw [List.length_map] at h
  exact ⟨h, Nat.le_refl _⟩
theorem nd3_rd (w : World) : Rd (w.alloc (.cells #[.int .u8 0, .string ⟨#[]⟩, .slice none 0 0, .slice none 0 0, .slice none 0 0] 37)) (some ⟨w.heap.size, 0, none⟩) 1 nd3 := by
  refine ⟨⟨rfl, by decide, fun _ => ⟨_, rfl, fun i x hx => ?_⟩⟩, by decide⟩
  have hi : i = 0 := by
    have := (List.getElem?_eq_some_iff.1 hx).1
    simp [nd3, of] at this; exact this
  subst hi
  obtain rfl : (⟨0, bs [], [], [], []⟩ : SN) = x := by simpa [nd3, of] using hx
  refine ⟨_, rfl, k37_mk _ (⟨0, bs [], [], [], []⟩ : SN) (A2 := none) (c2 := 0) (Nat.le_refl _) (Kd.C_nil _ _) (A3 := none) (c3 := 0) (Nat.le_refl _) (Kd.C_nil _ _) (A4 := none) (c4 := 0) (Nat.le_refl _) (Kd.C_nil _ _), fun j v hv => ?_⟩
  have BK := blk_new w (.cells #[.int .u8 0, .string ⟨#[]⟩, .slice none 0 0, .slice none 0 0, .slice none 0 0] 37)
  have hc := blk_cell BK j
  have e : (Addr.add ⟨w.heap.size, 0, none⟩ (0 * kN.sz + j)) = ⟨w.heap.size, j, none⟩ := by rw [Addr.add_lit]; congr 1; omega
  show World.cell? _ (Addr.add ⟨w.heap.size, 0, none⟩ (0 * kN.sz + j)) = some v
  rw [e, hc, ← hv]
  simp [bs]
set_option maxHeartbeats 4000000 in
set_option maxRecDepth 100000 in
theorem lives_any (w : World) (hG : Glob w) : Calls Tryz.prog 20 #[] w fun e w' => e = .returned (.bool true) ∧ Below w.heap.size w w' := by
  have HG := Aside0.mk hG
  have H1 := Aside0.mk (fun W (hW : Below w.heap.size w W) => parse_any src1 (by decide) W (HG.out.below hW))
  have H2 := Aside0.mk (fun W (hW : Below w.heap.size w W) => parse_any src2 (by decide) W (HG.out.below hW))
  rw [parse1] at H1
  rw [parse2] at H2
  clear hG
  go_enter Tryz.func20, Tryz.ntmps20
  go_wp2_with fail
  refine (H1.out w (Below.refl _ _)).mono ?_
  rintro e W1 ⟨hb, A1, c1, rfl, _, hR⟩
  have HB1 := Aside0.mk hb
  have HR1 := Aside0.mk hR
  clear hb hR
  go_wp2_with fail
  refine (roots2_any nd1 A1 c1 W1 (HG.out.below HB1.out) nd1_sm HR1.out (by decide) (by decide)).mono ?_
  rintro e W2 ⟨A2, c2, rfl, hS, hb⟩
  rw [nd1_roots] at hS ⊢
  rw [nd1_chk]
  have HB2 := Aside0.mk (below_step HB1.out hb)
  have HR2 := Aside0.mk (HR1.out.below hb)
  have HS2 := Aside0.mk hS
  clear hb hS
  simp only [if_true]
  go_wp2_with fail
  refine (count_any nd1 A1 c1 W2 (HG.out.below HB2.out) nd1_sm HR2.out (by decide) (by decide)).mono ?_
  rintro e W3 ⟨rfl, hb⟩
  rw [nd1_chk, nd1_cnt]
  have HB3 := Aside0.mk (below_step HB2.out hb)
  have HR3 := Aside0.mk (HR2.out.below hb)
  have HS3 := Aside0.mk (HS2.out.below hb)
  clear hb
  simp only [if_true]
  go_wp2_with fail
  refine (depth_any nd1 A1 c1 W3 (HG.out.below HB3.out) nd1_sm HR3.out (by decide) (by decide)).mono ?_
  rintro e W4 ⟨rfl, hb⟩
  rw [nd1_chk, nd1_depth]
  have HB4 := Aside0.mk (below_step HB3.out hb)
  have HR4 := Aside0.mk (HR3.out.below hb)
  have HS4 := Aside0.mk (HS3.out.below hb)
  clear hb
  simp only [if_true]
  go_wp2_with fail
  refine (plain_any nd1 A1 c1 W4 (HG.out.below HB4.out) nd1_sm HR4.out (by decide) (by decide)).mono ?_
  rintro e W5 ⟨rfl, hb⟩
  rw [nd1_chk, nd1_plain]
  have HB5 := Aside0.mk (below_step HB4.out hb)
  have HR5 := Aside0.mk (HR4.out.below hb)
  have HS5 := Aside0.mk (HS4.out.below hb)
  clear hb
  simp only [if_true]
  go_wp2_with fail
  refine (H2.out W5 HB5.out).mono ?_
  rintro e W6 ⟨hb, A3, c3, rfl, _, hR⟩
  have HB6 := Aside0.mk (below_step HB5.out hb)
  have HR6 := Aside0.mk (HR5.out.below hb)
  have HS6 := Aside0.mk (HS5.out.below hb)
  have HT6 := Aside0.mk hR
  clear hb hR
  go_wp2_with fail
  have HB6a := Aside0.mk (below_alloc HB6.out (.cells ((([sB, sItems] : List S).map bs).map Value.string).toArray 9))
  have HR6a := Aside0.mk (HR6.out.below (below_alloc (Below.refl W6.heap.size W6) (.cells ((([sB, sItems] : List S).map bs).map Value.string).toArray 9)))
  have HT6a := Aside0.mk (HT6.out.below (below_alloc (Below.refl W6.heap.size W6) (.cells ((([sB, sItems] : List S).map bs).map Value.string).toArray 9)))
  refine (same_any A2 c2 [sB, sItems] (some ⟨W6.heap.size, 0, none⟩) 2 [sB, sItems] _ (HS6.out.below (below_alloc (Below.refl _ _) _)) (lit_S [sB, sItems] W6 (by decide)) (by decide)).mono ?_
  rintro e W7 ⟨rfl, hb⟩
  rw [decide_eq_true (show [sB, sItems] = [sB, sItems] from rfl)]
  have HB7 := Aside0.mk (below_step HB6a.out hb)
  have HR7 := Aside0.mk (HR6a.out.below hb)
  have HT7 := Aside0.mk (HT6a.out.below hb)
  clear hb
  go_wp2_with fail
  refine (this_any nd2 A3 c3 W7 (HG.out.below HB7.out) nd2_sm HT7.out (by decide) (by decide)).mono ?_
  rintro e W8 ⟨rfl, hb⟩
  rw [nd2_this]
  have HB8 := Aside0.mk (below_step HB7.out hb)
  have HR8 := Aside0.mk (HR7.out.below hb)
  have HT8 := Aside0.mk (HT7.out.below hb)
  clear hb
  go_wp2_with fail
  refine (this_any nd1 A1 c1 W8 (HG.out.below HB8.out) nd1_sm HR8.out (by decide) (by decide)).mono ?_
  rintro e W9 ⟨rfl, hb⟩
  rw [nd1_this]
  have HB9 := Aside0.mk (below_step HB8.out hb)
  have HR9 := Aside0.mk (HR8.out.below hb)
  have HT9 := Aside0.mk (HT8.out.below hb)
  clear hb
  go_wp2_with fail
  have HB9a := Aside0.mk (below_alloc HB9.out (.cells ((([sItems] : List S).map bs).map Value.string).toArray 9))
  have HR9a := Aside0.mk (HR9.out.below (below_alloc (Below.refl W9.heap.size W9) (.cells ((([sItems] : List S).map bs).map Value.string).toArray 9)))
  have HT9a := Aside0.mk (HT9.out.below (below_alloc (Below.refl W9.heap.size W9) (.cells ((([sItems] : List S).map bs).map Value.string).toArray 9)))
  refine (only_any nd1 A1 c1 (some ⟨W9.heap.size, 0, none⟩) 1 [sItems] _ (HG.out.below HB9a.out) nd1_sm HR9a.out (by decide) (by decide) (lit_S [sItems] W9 (by decide)) (by decide)).mono ?_
  rintro e W10 ⟨rfl, hb⟩
  rw [nd1_only1]
  have HB10 := Aside0.mk (below_step HB9a.out hb)
  have HR10 := Aside0.mk (HR9a.out.below hb)
  have HT10 := Aside0.mk (HT9a.out.below hb)
  clear hb
  go_wp2_with fail
  have HB10a := Aside0.mk (below_alloc HB10.out (.cells ((([sItems, sB, sC] : List S).map bs).map Value.string).toArray 9))
  have HR10a := Aside0.mk (HR10.out.below (below_alloc (Below.refl W10.heap.size W10) (.cells ((([sItems, sB, sC] : List S).map bs).map Value.string).toArray 9)))
  have HT10a := Aside0.mk (HT10.out.below (below_alloc (Below.refl W10.heap.size W10) (.cells ((([sItems, sB, sC] : List S).map bs).map Value.string).toArray 9)))
  refine (only_any nd1 A1 c1 (some ⟨W10.heap.size, 0, none⟩) 3 [sItems, sB, sC] _ (HG.out.below HB10a.out) nd1_sm HR10a.out (by decide) (by decide) (lit_S [sItems, sB, sC] W10 (by decide)) (by decide)).mono ?_
  rintro e W11 ⟨rfl, hb⟩
  rw [nd1_only3]
  have HB11 := Aside0.mk (below_step HB10a.out hb)
  have HR11 := Aside0.mk (HR10a.out.below hb)
  have HT11 := Aside0.mk (HT10a.out.below hb)
  clear hb
  go_wp2_with fail
  have HB11a := Aside0.mk (below_alloc HB11.out (.cells #[.int .u8 0, .string ⟨#[]⟩, .slice none 0 0, .slice none 0 0, .slice none 0 0] 37))
  have HR11a := Aside0.mk (HR11.out.below (below_alloc (Below.refl W11.heap.size W11) (.cells #[.int .u8 0, .string ⟨#[]⟩, .slice none 0 0, .slice none 0 0, .slice none 0 0] 37)))
  have HT11a := Aside0.mk (HT11.out.below (below_alloc (Below.refl W11.heap.size W11) (.cells #[.int .u8 0, .string ⟨#[]⟩, .slice none 0 0, .slice none 0 0, .slice none 0 0] 37)))
  refine (only_any nd3 (some ⟨W11.heap.size, 0, none⟩) 1 none 0 [] _ (HG.out.below HB11a.out) nd3_sm (nd3_rd W11) (by decide) (by decide) ⟨C_none _ _ _ rfl, Nat.zero_le _⟩ (by decide)).mono ?_
  rintro e W12 ⟨rfl, hb⟩
  rw [nd3_only]
  have HB12 := Aside0.mk (below_step HB11a.out hb)
  have HR12 := Aside0.mk (HR11a.out.below hb)
  have HT12 := Aside0.mk (HT11a.out.below hb)
  clear hb
  go_wp2
  go_ret
  exact ⟨rfl, HB12.out⟩
end Go.Proofs.YtniibpndgcndbaaGreatDoor.Tpl
namespace Go.Proofs.YtniibpndgcndbaaGreatDoor.Tpl
open Go.RowKit Go.Proofs Go.Proofs.YtniibpndgcndbaaGreatDoor.PB Go.Proofs.YtniibpndgcndbaaGreatDoor.Short Go.Proofs.YtniibpndgcndbaaGreatDoorW.PrintWords Go.Proofs.YtniibpndgcndbaaGreatDoorW.PrintLast Go.Proofs.YtniibpndgcndbaaGreatDoorW.PrintMore Nodes
theorem max2_mx (k k' : IntKind) (x y : Int) : Builtin.max2 (.int k x) (.int k' y) = pure (.int k (mx x y)) := max2_int k k' x y
attribute [local go_sem high] max2_mx max_three
def midS : S := [109, 105, 100]
abbrev kR : Kd (List Value) := Kd.raw 5
theorem Rd.rows {w : World} {A : Option Addr} {c : Nat} {l : Nodes} (h : Rd w A c l) : ∃ rows : List (List Value), rows.length = l.len ∧ Kd.C kR w A l.len rows ∧ ∀ (j : Nat) x r, l.of[j]? = some x → rows[j]? = some r → kN.K w x r := by
  obtain ⟨news, h1, h2, h3⟩ := Kd.reads_raw (Rr := kN.K w) (sz := 5) (W := w) (m := l.len) (A := A) (ys := l.of) h.1 (fun x c hx => ⟨kN.K_len hx, kN.K_one hx⟩)
  exact ⟨news, by rw [h1, of_len], h2, h3⟩
theorem rows_C {w : World} {A : Option Addr} {xs : List SN} {rows : List (List Value)} {n : Nat} (h : Kd.C kR w A n rows) (hl : rows.length = xs.length) (hk : ∀ (j : Nat) x r, xs[j]? = some x → rows[j]? = some r → kN.K w x r) : kN.C w A n xs := by
  refine ⟨by rw [← hl]; exact h.1, h.2.1, fun hn => ?_⟩
  obtain ⟨ad, e, hc⟩ := h.2.2 hn
  refine ⟨ad, e, fun j x hx => ?_⟩
  have hj : j < rows.length := by rw [hl]; exact (List.getElem?_eq_some_iff.1 hx).1
  obtain ⟨c, h1, ⟨h2, _⟩, h3⟩ := hc j _ (List.getElem?_eq_getElem hj)
  subst h2
  exact ⟨_, h1, hk j x _ hx (List.getElem?_eq_getElem hj), h3⟩
theorem vap_of (x y : Nodes) : (x.app y).of = x.of ++ y.of := by
  induction x with
  | nil => rfl
  | cons k t p a b r _ _ ih => simp only [app, of, ih, List.cons_append]
theorem join_of (a b : Nodes) : (joinN a b [midS]).of = a.of ++ ((⟨2, bs [], [bs midS], [], []⟩ : SN) :: b.of) := by
  unfold joinN; rw [vap_of]; rfl
theorem join_len (a b : Nodes) (p : List S) : (joinN a b p).len = a.len + b.len + 1 := by unfold joinN; rw [vap_len]; simp only [len]; omega
def midRow (g : Nat) : List Value := [.int .u8 2, .string (bs []), .slice (some ⟨g, 0, none⟩) 1 1, .slice none 0 0, .slice none 0 0]
theorem mid_K {w : World} {g : Nat} (h : RdS w (some ⟨g, 0, none⟩) 1 [midS]) : kN.K w (⟨2, bs [], [bs midS], [], []⟩ : SN) (midRow g) :=
  k37_mk w (⟨2, bs [], [bs midS], [], []⟩ : SN) (A2 := some ⟨g, 0, none⟩) (c2 := 1) h.2 h.1 (A3 := none) (c3 := 0) (Nat.le_refl _) ⟨rfl, Nat.zero_le _, fun h => absurd h (by simp)⟩ (A4 := none) (c4 := 0) (Nat.le_refl _) ⟨rfl, Nat.zero_le _, fun h => absurd h (by simp)⟩
theorem mid_C (V : World) (g : Nat) : Kd.C kR (V.alloc (.cells #[.int .u8 2, .string (bs []), .slice (some ⟨g, 0, none⟩) 1 1, .slice none 0 0, .slice none 0 0] 37)) (some ⟨V.heap.size, 0, none⟩) 1 [midRow g] := by
  refine ⟨rfl, (by decide : (1 : Nat) ≤ 9223372036854775807), fun _ => ⟨_, rfl, fun j x hj => ?_⟩⟩
  cases j with
  | succ j => simp at hj
  | zero =>
    obtain rfl : midRow g = x := by simpa using hj
    refine ⟨_, rfl, ⟨rfl, rfl, fun u hu => ?_⟩, fun i u hu => ?_⟩
    · simp only [midRow, List.mem_cons, List.not_mem_nil, or_false] at hu
      rcases hu with rfl | rfl | rfl | rfl | rfl <;> rfl
    · have e : Addr.add ⟨V.heap.size, 0, none⟩ (0 * Kd.sz kR + i) = ⟨V.heap.size, i, none⟩ := by unfold Addr.add; split <;> simp_all
      rw [e, World.cell?_alloc_at _ _ _ _ rfl, ← hu]
      simp [midRow]
theorem lit_E (W : World) : Kd.R kR 37 (W.alloc (.cells #[] 37)) W.heap.size (fun _ => True) (.slice (some ⟨W.heap.size, 0, none⟩) 0 0) [] := by
  have h2 := World.ownsRow_lit (base := W.heap.size) (e := 37) (size := 5) W #[] 0 (Nat.le_refl _) (by simp [maxLen]) (by simp)
  exact ⟨fun _ _ => trivial, [], h2, Reps.none _ _⟩
theorem blk96 {n : Nat} (h : n ≤ 1048577) : n * 96 ≤ 140737488355328 := by omega
theorem mid_C1 (w1 : World) : Kd.C kR ((w1.alloc (.cells #[.string (bs midS)] 9)).alloc (.cells #[.int .u8 2, .string (bs []), .slice (some ⟨w1.heap.size, 0, none⟩) 1 1, .slice none 0 0, .slice none 0 0] 37)) (some ⟨w1.heap.size + 1, 0, none⟩) 1 [midRow w1.heap.size] := by
  have h := mid_C (w1.alloc (.cells #[.string (bs midS)] 9)) w1.heap.size
  rw [World.size_alloc] at h
  exact h
theorem joined {W1 w1 w2 w3 : World} {a b : Nodes} {ra rb : List (List Value)} {v1 v2 v3 : Value} {C1 : Obj}
    (hra : ra.length = a.len) (hrb : rb.length = b.len) (hka : ∀ (j : Nat) x r, a.of[j]? = some x → ra[j]? = some r → kN.K W1 x r) (hkb : ∀ (j : Nat) x r, b.of[j]? = some x → rb[j]? = some r → kN.K W1 x r)
    (hR1 : Kd.R kR 37 w1 W1.heap.size (fun _ => True) v1 ([] ++ ra)) (hg2 : ((w1.alloc (.cells #[.string (bs midS)] 9)).alloc C1).grownBy w2 v1.ownBlock)
    (hat2 : v2.ownBlock = v1.ownBlock ∨ ∃ b, v2.ownBlock = some b ∧ ((w1.alloc (.cells #[.string (bs midS)] 9)).alloc C1).heap.size ≤ b) (hg3 : w2.grownBy w3 v2.ownBlock)
    (hR3 : Kd.R kR 37 w3 W1.heap.size (fun _ => True) v3 ([] ++ ra ++ [midRow w1.heap.size] ++ rb)) (hB3 : Below W1.heap.size W1 w3) :
    ∃ Ax cx, v3 = .slice Ax (joinN a b [midS]).len cx ∧ Rd w3 Ax cx (joinN a b [midS]) := by
  have hlt := Kd.R_lt hR1
  have P1 := lit_R [bs midS] w1 0 (fun k => k = w1.heap.size) (Nat.zero_le _) (by simp) rfl
  have P2 := Kd.R_alloc P1 C1
  have P3 := Kd.R_grown P2 hg2 (fun k hk he => by have := hlt k he.symm; omega)
  have P4 := Kd.R_grown P3 hg3 (fun k hk he => by
    rcases hat2 with h | ⟨q, h, hq⟩
    · rw [h] at he; have := hlt k he.symm; omega
    · rw [h] at he; injection he with he; rw [World.size_alloc, World.size_alloc] at hq; omega)
  have hP : RdS w3 (some ⟨w1.heap.size, 0, none⟩) 1 [midS] := ⟨(Kd.R_reads' P4).2.2, Nat.le_refl _⟩
  obtain ⟨Ax, cx, e, hl, hC⟩ := Kd.R_reads hR3
  have hlen : ([] ++ ra ++ [midRow w1.heap.size] ++ rb).length = (joinN a b [midS]).len := by simp [join_len, hra, hrb]; omega
  have hlen2 : ([] ++ ra ++ [midRow w1.heap.size] ++ rb).length = (joinN a b [midS]).of.length := by rw [hlen, of_len]
  refine ⟨Ax, cx, by rw [e, hlen], ?_, by rw [← hlen]; exact hl⟩
  rw [hlen] at hC
  refine rows_C hC hlen2 (fun j x r hx hr => ?_)
  have hal : a.of.length = ra.length := by rw [of_len, hra]
  rw [join_of] at hx
  simp only [List.nil_append, List.append_assoc, List.cons_append] at hr
  by_cases h1 : j < ra.length
  · rw [List.getElem?_append_left (by omega)] at hx
    rw [List.getElem?_append_left h1] at hr
    exact kN.K_below hB3 (hka j x r hx hr)
  · rw [List.getElem?_append_right (by omega), hal] at hx
    rw [List.getElem?_append_right (by omega)] at hr
    cases hj : j - ra.length with
    | zero =>
      rw [hj] at hx hr
      simp at hx hr
      subst hx hr
      exact mid_K hP
    | succ i =>
      rw [hj] at hx hr
      simp at hx hr
      exact kN.K_below hB3 (hkb i x r hx hr)
theorem join_sm (a b : Nodes) (ha : a.sm) (hb : b.sm) (la : a.len ≤ 1048576) (lb : b.len ≤ 1048576) : (joinN a b [midS]).sm := by
  unfold joinN
  have : ∀ x y : Nodes, x.sm → y.sm → (x.app y).sm := by
    intro x y hx hy
    induction x with
    | nil => exact hy
    | cons k t p u v r _ _ ih => exact ⟨hx.1, hx.2.1, hx.2.2.1, hx.2.2.2.1, hx.2.2.2.2.1, hx.2.2.2.2.2.1, hx.2.2.2.2.2.2.1, hx.2.2.2.2.2.2.2.1, ih hx.2.2.2.2.2.2.2.2⟩
  refine this a _ ha ⟨by decide, by decide, by decide, fun s hs => ?_, by decide, by decide, trivial, trivial, hb⟩
  simp at hs; subst hs; decide
theorem plain_le (l : Nodes) (h : l.sm) : l.plainP ≤ l.cnt * 1048576 := by
  induction l with
  | nil => exact Nat.le_refl _
  | cons k t p a b r iha ihb ihr =>
    have h1 := iha h.2.2.2.2.2.2.1
    have h2 := ihb h.2.2.2.2.2.2.2.1
    have h3 := ihr h.2.2.2.2.2.2.2.2
    have h4 := h.2.1
    simp only [plainP, cnt]
    omega
def SizesOk (a b M : Nodes) (ca cb cm pa pb pm da db dm : Int) : Prop :=
  IntKind.i64.wrap (IntKind.i64.wrap (cm - ca) - cb) = 1 ∧ IntKind.i64.wrap (pa + pb) = pm ∧ dm = max (max 1 da) db ∧ onlyP a (rootsOf M) = 0 ∧ onlyP b (rootsOf M) = 0 ∧
    ∀ i, i < (rootsOf M).length → ([midS] ++ rootsOf a ++ rootsOf b).contains ((rootsOf M).getD i []) = true
def SizesX (a b M : Nodes) (ka kb km ca cb cm pa pb pm da db dm : Int) : Prop :=
  ka = 2 ∨ (ka = 0 ∧ kb = 2) ∨ (ka = 0 ∧ kb = 0 ∧ km = 2) ∨ (ka = 0 ∧ kb = 0 ∧ km = 0 ∧ SizesOk a b M ca cb cm pa pb pm da db dm)
theorem sizes_x {a b M : Nodes} (hsa : a.sm) (hsb : b.sm) (hab : a.cnt + b.cnt + 1 ≤ 1048576) {ka kb km ca cb cm pa pb pm da db dm : Int} (hM : joinN a b [midS] = M)
    (hka : (if a.chk = true then (0 : Int) else 2) = ka) (hkb : (if b.chk = true then (0 : Int) else 2) = kb) (hkm : (if M.chk = true then (0 : Int) else 2) = km)
    (hca : (if a.chk = true then (a.cnt : Int) else 0) = ca) (hcb : (if b.chk = true then (b.cnt : Int) else 0) = cb) (hcm : (if M.chk = true then (M.cnt : Int) else 0) = cm)
    (hpa : (if a.chk = true then (a.plainP : Int) else 0) = pa) (hpb : (if b.chk = true then (b.plainP : Int) else 0) = pb) (hpm : (if M.chk = true then (M.plainP : Int) else 0) = pm)
    (hda : (if a.chk = true then (a.depthP : Int) else 0) = da) (hdb : (if b.chk = true then (b.depthP : Int) else 0) = db) (hdm : (if M.chk = true then (M.depthP : Int) else 0) = dm) : SizesX a b M ka kb km ca cb cm pa pb pm da db dm := by
  unfold SizesX
  cases h1 : a.chk with
  | false => rw [h1] at hka; exact .inl hka.symm
  | true =>
  cases h2 : b.chk with
  | false => rw [h1] at hka; rw [h2] at hkb; exact .inr (.inl ⟨hka.symm, hkb.symm⟩)
  | true =>
  cases h3 : M.chk with
  | false => rw [h1] at hka; rw [h2] at hkb; rw [h3] at hkm; exact .inr (.inr (.inl ⟨hka.symm, hkb.symm, hkm.symm⟩))
  | true =>
    rw [h1] at hka hca hpa hda
    rw [h2] at hkb hcb hpb hdb
    rw [h3] at hkm hcm hpm hdm
    simp only [if_true] at hka hca hpa hda hkb hcb hpb hdb hkm hcm hpm hdm
    refine .inr (.inr (.inr ⟨hka.symm, hkb.symm, hkm.symm, ?_, ?_, ?_, ?_, ?_, ?_⟩))
    · have e : M.cnt = a.cnt + b.cnt + 1 := by rw [← hM, join_cnt]
      rw [IntWalk.i64_in (cm - ca) (by omega), IntWalk.i64_in _ (by omega)]; omega
    · have e : M.plainP = a.plainP + b.plainP := by rw [← hM, join_plain]
      have g1 := plain_le a hsa
      have g2 := plain_le b hsb
      rw [IntWalk.i64_in _ (by omega)]; omega
    · have e : M.depthP = max (max 1 a.depthP) b.depthP := by rw [← hM, join_depth]
      omega
    · unfold onlyP rootsOf
      rw [if_pos h1, if_pos h3, if_pos]
      rw [List.all_eq_true]
      intro x hx
      have := (join_roots a b midS x rfl).2 (.inr (.inl hx))
      rw [hM] at this
      simpa using this
    · unfold onlyP rootsOf
      rw [if_pos h2, if_pos h3, if_pos]
      rw [List.all_eq_true]
      intro x hx
      have := (join_roots a b midS x rfl).2 (.inr (.inr hx))
      rw [hM] at this
      simpa using this
    · intro i hi
      unfold rootsOf at hi ⊢
      rw [if_pos h3] at hi ⊢
      rw [if_pos h1, if_pos h2]
      have e : (rootsP M).getD i [] = (rootsP M)[i] := by simp [List.getD, hi]
      have hm : (rootsP M)[i] ∈ rootsP (joinN a b [midS]) := by rw [hM]; exact List.getElem_mem hi
      rw [join_roots a b midS _ rfl] at hm
      rw [e]
      generalize (rootsP M)[i] = x at hm
      rcases hm with rfl | hm | hm <;> simp [*]
set_option maxHeartbeats 8000000 in
set_option maxRecDepth 100000 in
theorem sizes_any (a : Nodes) (Aa : Option Addr) (ca : Nat) (b : Nodes) (Ab : Option Addr) (cb : Nat) (w : World) (hG : Glob w) (hsa : a.sm) (hRa : Rd w Aa ca a) (hsb : b.sm) (hRb : Rd w Ab cb b) (hab : a.cnt + b.cnt + 1 ≤ 1048576) :
    Calls Tryz.prog 5 #[.slice Aa a.len ca, .slice Ab b.len cb] w fun e w' => e = .returned (.bool true) ∧ Below w.heap.size w w' := by
  have HG := Aside0.mk hG
  have HSA := Aside0.mk hsa
  have HSB := Aside0.mk hsb
  have HA0 := Aside0.mk hRa
  have HB0 := Aside0.mk hRb
  have HW0 := Aside0.mk (Below.refl w.heap.size w)
  have hla : a.len ≤ 1048576 := by have := len_cnt a; omega
  have hlb : b.len ≤ 1048576 := by have := len_cnt b; omega
  have hca : a.cnt ≤ 1048576 := by omega
  have hcb : b.cnt ≤ 1048576 := by omega
  have hlm : a.len + b.len + 1 ≤ 1048576 := by have := len_cnt a; have := len_cnt b; omega
  obtain ⟨M, hMd⟩ : ∃ M, joinN a b [midS] = M := ⟨_, rfl⟩
  have hsm := join_sm a b HSA.out HSB.out hla hlb
  have hlm2 : M.len ≤ 1048576 := by rw [← hMd, join_len]; exact hlm
  have hcm : M.cnt ≤ 1048576 := by rw [← hMd, join_cnt]; exact hab
  obtain ⟨ka, hka⟩ : ∃ k : Int, (if a.chk = true then 0 else 2) = k := ⟨_, rfl⟩
  obtain ⟨cav, hca_⟩ : ∃ k : Int, (if a.chk = true then (a.cnt : Int) else 0) = k := ⟨_, rfl⟩
  obtain ⟨pav, hpa⟩ : ∃ k : Int, (if a.chk = true then (a.plainP : Int) else 0) = k := ⟨_, rfl⟩
  obtain ⟨dav, hda⟩ : ∃ k : Int, (if a.chk = true then (a.depthP : Int) else 0) = k := ⟨_, rfl⟩
  obtain ⟨kb, hkb⟩ : ∃ k : Int, (if b.chk = true then 0 else 2) = k := ⟨_, rfl⟩
  obtain ⟨cbv, hcb_⟩ : ∃ k : Int, (if b.chk = true then (b.cnt : Int) else 0) = k := ⟨_, rfl⟩
  obtain ⟨pbv, hpb⟩ : ∃ k : Int, (if b.chk = true then (b.plainP : Int) else 0) = k := ⟨_, rfl⟩
  obtain ⟨dbv, hdb⟩ : ∃ k : Int, (if b.chk = true then (b.depthP : Int) else 0) = k := ⟨_, rfl⟩
  obtain ⟨km, hkm⟩ : ∃ k : Int, (if M.chk = true then 0 else 2) = k := ⟨_, rfl⟩
  obtain ⟨cmv, hcm_⟩ : ∃ k : Int, (if M.chk = true then (M.cnt : Int) else 0) = k := ⟨_, rfl⟩
  obtain ⟨pmv, hpm⟩ : ∃ k : Int, (if M.chk = true then (M.plainP : Int) else 0) = k := ⟨_, rfl⟩
  obtain ⟨dmv, hdm⟩ : ∃ k : Int, (if M.chk = true then (M.depthP : Int) else 0) = k := ⟨_, rfl⟩
  have HX : Aside0 (SizesX a b M ka kb km cav cbv cmv pav pbv pmv dav dbv dmv) := ⟨sizes_x hsa hsb hab hMd hka hkb hkm hca_ hcb_ hcm_ hpa hpb hpm hda hdb hdm⟩
  rw [hMd] at hsm
  have HSM := Aside0.mk hsm
  have HKa := Aside0.mk hka
  have Hca := Aside0.mk hca_
  have Hpa := Aside0.mk hpa
  have Hda := Aside0.mk hda
  have HKb := Aside0.mk hkb
  have Hcb := Aside0.mk hcb_
  have Hpb := Aside0.mk hpb
  have Hdb := Aside0.mk hdb
  have HKm := Aside0.mk hkm
  have Hcm := Aside0.mk hcm_
  have Hpm := Aside0.mk hpm
  have Hdm := Aside0.mk hdm
  have HMd := Aside0.mk hMd
  clear hsm hMd hka hca_ hpa hda hkb hcb_ hpb hdb hkm hcm_ hpm hdm
  clear hG hsa hRa hsb hRb
  go_enter Tryz.func5, Tryz.ntmps5
  go_wp2_with fail
  refine (lives_any w (HG.out.below HW0.out)).mono ?_
  rintro e W1 ⟨rfl, hb⟩
  have HW1 := Aside0.mk (below_step HW0.out hb)
  have HA1 := Aside0.mk (HA0.out.below hb)
  have HB1 := Aside0.mk (HB0.out.below hb)
  clear hb
  obtain ⟨ra, hra, hca1, hka⟩ := Rd.rows HA1.out
  obtain ⟨rb, hrb, hcb1, hkb⟩ := Rd.rows HB1.out
  have HRA := Aside0.mk hra
  have HRB := Aside0.mk hrb
  have HCA := Aside0.mk hca1
  have HCB := Aside0.mk hcb1
  have HKA := Aside0.mk hka
  have HKB := Aside0.mk hkb
  have E0 := Aside0.mk (lit_E W1)
  have h0 : ([] : List (List Value)).length + a.len ≤ 1048577 := by simp; omega
  have h1 : ([] ++ ra).length + 1 ≤ 1048577 := by simp; omega
  have h2 : ∀ q, ([] ++ ra ++ [midRow q]).length + b.len ≤ 1048577 := by intro q; simp; omega
  clear hra hrb hca1 hcb1 hka hkb
  go_wp2_with (at_builtin; first
    | (refine Kd.R_append_rows kR (w0 := W1) W1.heap.size rfl _ _ 22 37 _ 96 rfl Tryz.underlying22 info_node rfl (by decide) (by decide) (.slice (some ⟨W1.heap.size, 0, none⟩) 0 0) [] ra Aa a.len ca (fun _ => True) (fun _ => False) (by rfl) (by rfl) E0.out (Kd.C_below HCA.out (below_alloc (Below.refl _ _) _)) (fun _ _ h => h) (fun _ h => h.elim) (fun _ _ => trivial) (below_alloc (Below.refl _ _) _) (below_alloc (Below.refl _ _) _).size (blk96 h0) ?_; intro v1 w1 hR1 hB1 hg1 hat1)
    | (refine Kd.R_append_rows kR (w0 := W1) W1.heap.size rfl _ _ 22 37 _ 96 rfl Tryz.underlying22 info_node rfl (by decide) (by decide) v1 ([] ++ ra) [midRow w1.heap.size] (some ⟨w1.heap.size + 1, 0, none⟩) 1 1 (fun _ => True) (fun _ => False) (by rfl) (by rfl) (Kd.R_alloc (Kd.R_alloc hR1 _) _) (mid_C1 w1) (fun _ _ h => h) (fun _ h => h.elim) (fun _ _ => trivial) (below_alloc (below_alloc hB1 _) _) (Nat.le_trans hB1.size (by simp; omega)) (blk96 h1) ?_; intro v2 w2 hR2 hB2 hg2 hat2)
    | (refine Kd.R_append_rows kR (w0 := W1) W1.heap.size rfl _ _ 22 37 _ 96 rfl Tryz.underlying22 info_node rfl (by decide) (by decide) v2 ([] ++ ra ++ [midRow w1.heap.size]) rb Ab b.len cb (fun _ => True) (fun _ => False) (by rfl) (by rfl) hR2 (Kd.C_below HCB.out hB2) (fun _ _ h => h) (fun _ h => h.elim) (fun _ _ => trivial) hB2 hB2.size (blk96 (h2 _)) ?_; intro v3 w3 hR3 hB3 hg3 hat3))
  obtain ⟨Ax, cx, rfl, hM⟩ := joined HRA.out HRB.out HKA.out HKB.out hR1 hg2 hat2 hg3 hR3 hB3
  have HM3 := Aside0.mk hM
  have HW3 := Aside0.mk (below_step HW1.out hB3)
  have HA3 := Aside0.mk (HA1.out.below hB3)
  have HB3 := Aside0.mk (HB1.out.below hB3)
  clear hR1 hB1 hg1 hat1 hR2 hB2 hg2 hat2 hR3 hB3 hg3 hat3 hM HRA HRB HCA HCB HKA HKB E0 HA0 HB0 HW0 HA1 HB1 HW1 h0 h1 h2
  rw [HMd.out] at HM3 ⊢
  refine (count_any a Aa ca w3 (HG.out.below HW3.out) HSA.out HA3.out hla hca).mono ?_
  rintro e V4 ⟨rfl, hb⟩
  rw [Hca.out, HKa.out]
  have HW4 := Aside0.mk (below_step HW3.out hb)
  have HA4 := Aside0.mk (HA3.out.below hb)
  have HB4 := Aside0.mk (HB3.out.below hb)
  have HM4 := Aside0.mk (HM3.out.below hb)
  clear hb HA3 HB3 HM3 HW3 
  go_wp2_with fail
  refine (count_any b Ab cb V4 (HG.out.below HW4.out) HSB.out HB4.out hlb hcb).mono ?_
  rintro e V5 ⟨rfl, hb⟩
  rw [Hcb.out, HKb.out]
  have HW5 := Aside0.mk (below_step HW4.out hb)
  have HA5 := Aside0.mk (HA4.out.below hb)
  have HB5 := Aside0.mk (HB4.out.below hb)
  have HM5 := Aside0.mk (HM4.out.below hb)
  clear hb HA4 HB4 HM4 HW4 
  go_wp2_with fail
  refine (count_any M Ax cx V5 (HG.out.below HW5.out) HSM.out HM5.out hlm2 hcm).mono ?_
  rintro e V6 ⟨rfl, hb⟩
  rw [Hcm.out, HKm.out]
  have HW6 := Aside0.mk (below_step HW5.out hb)
  have HA6 := Aside0.mk (HA5.out.below hb)
  have HB6 := Aside0.mk (HB5.out.below hb)
  have HM6 := Aside0.mk (HM5.out.below hb)
  clear hb HA5 HB5 HM5 HW5 
  rcases HX.out with h1 | ⟨h1, h2⟩ | ⟨h1, h2, h3⟩ | ⟨h1, h2, h3, hX⟩
  · rw [h1]; clear h1 HX; go_wp2; go_ret; exact ⟨rfl, HW6.out⟩
  · rw [h1, h2]; clear h1 h2 HX; go_wp2; go_ret; exact ⟨rfl, HW6.out⟩
  · rw [h1, h2, h3]; clear h1 h2 h3 HX; go_wp2; go_ret; exact ⟨rfl, HW6.out⟩
  · have HX := Aside0.mk hX
    rw [h1, h2, h3]
    have Za := Aside0.mk h1
    have Zb := Aside0.mk h2
    have Zm := Aside0.mk h3
    clear h1 h2 h3 hX
    go_wp2_with fail
    refine (plain_any a Aa ca V6 (HG.out.below HW6.out) HSA.out HA6.out hla hca).mono ?_
    rintro e V7 ⟨rfl, hb⟩
    rw [Hpa.out, HKa.out, Za.out]
    have HW7 := Aside0.mk (below_step HW6.out hb)
    have HA7 := Aside0.mk (HA6.out.below hb)
    have HB7 := Aside0.mk (HB6.out.below hb)
    have HM7 := Aside0.mk (HM6.out.below hb)
    clear hb HA6 HB6 HM6 HW6 
    go_wp2_with fail
    refine (plain_any b Ab cb V7 (HG.out.below HW7.out) HSB.out HB7.out hlb hcb).mono ?_
    rintro e V8 ⟨rfl, hb⟩
    rw [Hpb.out, HKb.out, Zb.out]
    have HW8 := Aside0.mk (below_step HW7.out hb)
    have HA8 := Aside0.mk (HA7.out.below hb)
    have HB8 := Aside0.mk (HB7.out.below hb)
    have HM8 := Aside0.mk (HM7.out.below hb)
    clear hb HA7 HB7 HM7 HW7 
    go_wp2_with fail
    refine (plain_any M Ax cx V8 (HG.out.below HW8.out) HSM.out HM8.out hlm2 hcm).mono ?_
    rintro e V9 ⟨rfl, hb⟩
    rw [Hpm.out, HKm.out, Zm.out]
    have HW9 := Aside0.mk (below_step HW8.out hb)
    have HA9 := Aside0.mk (HA8.out.below hb)
    have HB9 := Aside0.mk (HB8.out.below hb)
    have HM9 := Aside0.mk (HM8.out.below hb)
    clear hb HA8 HB8 HM8 HW8 
    go_wp2_with fail
    refine (depth_any a Aa ca V9 (HG.out.below HW9.out) HSA.out HA9.out hla hca).mono ?_
    rintro e V10 ⟨rfl, hb⟩
    rw [Hda.out, HKa.out, Za.out]
    have HW10 := Aside0.mk (below_step HW9.out hb)
    have HA10 := Aside0.mk (HA9.out.below hb)
    have HB10 := Aside0.mk (HB9.out.below hb)
    have HM10 := Aside0.mk (HM9.out.below hb)
    clear hb HA9 HB9 HM9 HW9 
    go_wp2_with fail
    refine (depth_any b Ab cb V10 (HG.out.below HW10.out) HSB.out HB10.out hlb hcb).mono ?_
    rintro e V11 ⟨rfl, hb⟩
    rw [Hdb.out, HKb.out, Zb.out]
    have HW11 := Aside0.mk (below_step HW10.out hb)
    have HA11 := Aside0.mk (HA10.out.below hb)
    have HB11 := Aside0.mk (HB10.out.below hb)
    have HM11 := Aside0.mk (HM10.out.below hb)
    clear hb HA10 HB10 HM10 HW10 
    go_wp2_with fail
    refine (depth_any M Ax cx V11 (HG.out.below HW11.out) HSM.out HM11.out hlm2 hcm).mono ?_
    rintro e V12 ⟨rfl, hb⟩
    rw [Hdm.out, HKm.out, Zm.out]
    have HW12 := Aside0.mk (below_step HW11.out hb)
    have HA12 := Aside0.mk (HA11.out.below hb)
    have HB12 := Aside0.mk (HB11.out.below hb)
    have HM12 := Aside0.mk (HM11.out.below hb)
    clear hb HA11 HB11 HM11 HW11 
    go_wp2_with fail
    refine (roots2_any M Ax cx V12 (HG.out.below HW12.out) HSM.out HM12.out hlm2 hcm).mono ?_
    rintro e V13 ⟨Qm, qm, rfl, hS, hb⟩
    rw [HKm.out, Zm.out]
    have HW13 := Aside0.mk (below_step HW12.out hb)
    have HA13 := Aside0.mk (HA12.out.below hb)
    have HB13 := Aside0.mk (HB12.out.below hb)
    have HM13 := Aside0.mk (HM12.out.below hb)
    have HRm13 := Aside0.mk hS
    clear hS
    clear hb HA12 HB12 HM12 HW12 
    go_wp2_with fail
    refine (roots2_any a Aa ca V13 (HG.out.below HW13.out) HSA.out HA13.out hla hca).mono ?_
    rintro e V14 ⟨Qa, qa, rfl, hS, hb⟩
    rw [HKa.out, Za.out]
    have HW14 := Aside0.mk (below_step HW13.out hb)
    have HA14 := Aside0.mk (HA13.out.below hb)
    have HB14 := Aside0.mk (HB13.out.below hb)
    have HM14 := Aside0.mk (HM13.out.below hb)
    have HRm14 := Aside0.mk (RdS.below HRm13.out hb)
    have HRa14 := Aside0.mk hS
    clear hS
    clear hb HA13 HB13 HM13 HW13 HRm13
    go_wp2_with fail
    refine (roots2_any b Ab cb V14 (HG.out.below HW14.out) HSB.out HB14.out hlb hcb).mono ?_
    rintro e V15 ⟨Qb, qb, rfl, hS, hb⟩
    rw [HKb.out, Zb.out]
    have HW15 := Aside0.mk (below_step HW14.out hb)
    have HA15 := Aside0.mk (HA14.out.below hb)
    have HB15 := Aside0.mk (HB14.out.below hb)
    have HM15 := Aside0.mk (HM14.out.below hb)
    have HRm15 := Aside0.mk (RdS.below HRm14.out hb)
    have HRa15 := Aside0.mk (RdS.below HRa14.out hb)
    have HRb15 := Aside0.mk hS
    clear hS
    clear hb HA14 HB14 HM14 HW14 HRm14 HRa14
    have E0 : Aside0 (Kd.string.R 9 (V15.alloc (.cells #[.string (bs midS)] 9)) V15.heap.size (fun _ => True) (.slice (some ⟨V15.heap.size, 0, none⟩) 1 1) [bs midS]) := ⟨lit_R [bs midS] V15 V15.heap.size (fun _ => True) (Nat.le_refl _) (by simp) trivial⟩
    have hna := rootsOf_len a
    have hnb := rootsOf_len b
    have hnm := Nat.le_trans (rootsOf_len M) hcm
    have hle0 : [bs midS].length + (rootsOf a).length ≤ 1048577 := by simp; omega
    have hle1 : ([bs midS] ++ (rootsOf a).map bs).length + (rootsOf b).length ≤ 1048577 := by simp; omega
    obtain ⟨nm, hx⟩ : ∃ p, [midS] ++ rootsOf a ++ rootsOf b = p := ⟨_, rfl⟩
    have hnl : nm.length ≤ 1048576 := by rw [← hx]; simp; omega
    have Hf : Aside0 ([bs midS] ++ (rootsOf a).map bs ++ (rootsOf b).map bs = nm.map bs) := ⟨by rw [← hx]; simp⟩
    have HX' : Aside0 (IntKind.i64.wrap (IntKind.i64.wrap (cmv - cav) - cbv) = 1 ∧ IntKind.i64.wrap (pav + pbv) = pmv ∧ dmv = max (max 1 dav) dbv ∧ onlyP a (rootsOf M) = 0 ∧ onlyP b (rootsOf M) = 0 ∧ ∀ i, i < (rootsOf M).length → nm.contains ((rootsOf M).getD i []) = true) := ⟨by rw [← hx]; exact HX.out⟩
    clear HX hx hna hnb
    go_wp2_with (at_builtin; first
      | (refine Kd.R_append_rows Kd.string (w0 := V15) V15.heap.size rfl _ _ 23 9 _ 16 rfl Tryz.underlying23 info_str rfl (by decide) (by decide) (.slice (some ⟨V15.heap.size, 0, none⟩) 1 1) [bs midS] ((rootsOf a).map bs) Qa (rootsOf a).length qa (fun _ => True) (fun _ => False) (by rfl) (by rfl) E0.out (Kd.C_below HRa15.out.1 (below_alloc (Below.refl _ _) _)) (fun _ _ h => h) (fun _ h => h.elim) (fun _ _ => trivial) (below_alloc (Below.refl _ _) _) (below_alloc (Below.refl _ _) _).size (blk16 hle0) ?_; intro v1 w1 hR1 hB1 hg1 hat1)
      | (refine Kd.R_append_rows Kd.string (w0 := V15) V15.heap.size rfl _ _ 23 9 _ 16 rfl Tryz.underlying23 info_str rfl (by decide) (by decide) v1 ([bs midS] ++ (rootsOf a).map bs) ((rootsOf b).map bs) Qb (rootsOf b).length qb (fun _ => True) (fun _ => False) (by rfl) (by rfl) hR1 (Kd.C_below HRb15.out.1 (belB hB1)) (fun _ _ h => h) (fun _ h => h.elim) (fun _ _ => trivial) hB1 hB1.size (blk16 hle1) ?_; intro v2 w2 hR2 hB2 hg2 hat2))
    rw [Hf.out] at hR2
    obtain ⟨An, cn, rfl, hN⟩ := RdS.of_R hR2
    have HN := Aside0.mk hN
    have HW16 := Aside0.mk (below_step HW15.out hB2)
    have HA16 := Aside0.mk (HA15.out.below hB2)
    have HB16 := Aside0.mk (HB15.out.below hB2)
    have HRm16 := Aside0.mk (RdS.below HRm15.out hB2)
    clear hR1 hB1 hg1 hat1 hR2 hB2 hg2 hat2 hN HA15 HB15 HM15 HW15 HRm15 HRa15 HRb15 E0 hle0 hle1 Hf
    obtain ⟨x1, x2, x3, x4, x5, x6⟩ := HX'.out
    obtain ⟨y1, hy1⟩ : ∃ y, IntKind.i64.wrap (cmv - cav) = y := ⟨_, rfl⟩
    rw [hy1] at x1
    have X4 := Aside0.mk x4
    have X5 := Aside0.mk x5
    have X6 := Aside0.mk x6
    have Hy1 := Aside0.mk hy1
    have X1 := Aside0.mk x1
    have X2 := Aside0.mk x2
    have X3 := Aside0.mk x3
    clear x1 x2 x3 x4 x5 x6 hy1 HX'
    generalize rootsOf M = p at *
    go_loop [124] (fun v => ∃ i : Nat, v = .int .i64 i ∧ i ≤ p.length) (fun v => p.length - (intOf v).toNat)
    case atStart => exact ⟨0, rfl, Nat.zero_le _⟩
    case round =>
      obtain ⟨i, rfl, hi⟩ := hrel
      by_cases hlt : i < p.length
      · obtain ⟨b1, off1, rfl, hcl⟩ := cellS HRm16.out i hlt
        have hin := X6.out i hlt
        generalize p.getD i [] = s0 at hcl hin
        have HIN := Aside0.mk hin
        clear hin
        go_wp2
        go_loop [33, 130] (fun v9 v => ∃ (j : Nat) (q : Bool), v = .int .i64 j ∧ j ≤ nm.length ∧ v9 = .bool q ∧ Aside0 ((nm.take j).contains s0 = q)) (fun _ v => nm.length - (intOf v).toNat)
        case atStart => exact ⟨0, false, rfl, Nat.zero_le _, rfl, ⟨by simp⟩⟩
        case round =>
          obtain ⟨j, q, rfl, hj, rfl, HQ⟩ := hrel
          by_cases hlj : j < nm.length
          · obtain ⟨b2, off2, rfl, hcl2⟩ := cellS HN.out j hlj
            have hsn := cont_snoc nm s0 j hlj
            have e2 : ((bs (nm.getD j [])).toList == (bs s0).toList) = (nm.getD j [] == s0) := by rw [bs_list, bs_list]
            generalize nm.getD j [] = s1 at hcl2 hsn e2
            generalize (s1 == s0) = t at hsn e2
            have HSN := Aside0.mk hsn
            clear hsn
            cases q
            all_goals
              go_wp2
              go_round
              case rel => exact ⟨j + 1, _, by go_num, by omega, rfl, ⟨by rw [HSN.out, HQ.out]; simp⟩⟩
              case measure => simp [intOf]; omega
          · obtain rfl : j = nm.length := by omega
            have hq := HQ.out
            rw [List.take_length, HIN.out] at hq
            subst hq
            clear HQ
            go_wp2
            go_round
            case rel => exact ⟨i + 1, by go_num, by omega⟩
            case measure => simp [intOf]; omega
      · obtain rfl : i = p.length := by omega
        have g1 := Hy1.out
        have g2 := X1.out
        have g3 := X2.out
        have g4 : mx (mx 1 dav) dbv = dmv := by rw [X3.out]; unfold mx; split <;> split <;> omega
        go_wp2_with fail
        refine (only_any a Aa ca Qm qm p w2 (HG.out.below HW16.out) HSA.out HA16.out hla hca HRm16.out hnm).mono ?_
        rintro e V17 ⟨rfl, hb⟩
        rw [X4.out]
        have HW17 := Aside0.mk (below_step HW16.out hb)
        have HB17 := Aside0.mk (HB16.out.below hb)
        have HRm17 := Aside0.mk (RdS.below HRm16.out hb)
        clear hb
        go_wp2_with fail
        refine (only_any b Ab cb Qm qm p V17 (HG.out.below HW17.out) HSB.out HB17.out hlb hcb HRm17.out hnm).mono ?_
        rintro e V18 ⟨rfl, hb⟩
        rw [X5.out]
        have HW18 := Aside0.mk (below_step HW17.out hb)
        clear hb g1 g2 g3 g4
        go_wp2
        go_ret
        exact ⟨by simp, HW18.out⟩
theorem sizes_row (a : Nodes) (Aa : Option Addr) (ca : Nat) (b : Nodes) (Ab : Option Addr) (cb : Nat) (w : World) (hG : Glob w) (hsa : a.sm) (hRa : Rd w Aa ca a) (_ : a.len ≤ 1048576) (_ : a.cnt ≤ 1048576) (hsb : b.sm) (hRb : Rd w Ab cb b) (_ : b.len ≤ 1048576) (_ : b.cnt ≤ 1048576) (hab : a.cnt + b.cnt + 1 ≤ 1048576) :
    Calls Tryz.prog 5 #[.slice Aa a.len ca, .slice Ab b.len cb] w fun e w' => e = .returned (.bool true) ∧ Below w.heap.size w w' := sizes_any a Aa ca b Ab cb w hG hsa hRa hsb hRb hab
end Go.Proofs.YtniibpndgcndbaaGreatDoor.Tpl
namespace Go.Proofs.YtniibpndgcndbaaGreatDoor.Tpl
open Go.RowKit Go.ChangeShapes Go.WideShapes Go.Proofs.YtniibpndgcndbaaGreatDoor.PB Go.Proofs.YtniibpndgcndbaaGreatDoorW.PrintWords
section
variable {H : Type} {enc : TypeId × Value → H} {W : World}
theorem bulk_strs (ss : List ByteArray) : (ss.length ≤ Rows.uptoBulkAll (strs (H := H) ss)) ∧ ∀ s ∈ ss, s.size ≤ Rows.uptoBulkAll (strs (H := H) ss) := by
  induction ss with
  | nil => exact ⟨Nat.zero_le _, fun _ h => by cases h⟩
  | cons s ss ih =>
    have e : Rows.uptoBulkAll (strs (H := H) (s :: ss)) = (s.size + 1) + Rows.uptoBulkAll (strs (H := H) ss) := by
      show Rows.uptoBulkAll (DataW.lit (.string s.data.toList) :: strs ss) = _
      simp only [Rows.uptoBulkAll, Rows.uptoBulk, Array.length_toList]
      rfl
    rw [e]
    refine ⟨by simp only [List.length_cons]; omega, fun x hx => ?_⟩
    rcases List.mem_cons.1 hx with rfl | hx
    · omega
    · have := ih.2 x hx; omega
theorem cells_strs : Tryz.prog.cellsOf 9 = 1 := by kernel_rfl
theorem cells_node : Tryz.prog.cellsOf 37 = 5 := by kernel_rfl
theorem cells_kind : Tryz.prog.cellsOf 35 = 1 := by kernel_rfl
theorem cells_names : Tryz.prog.cellsOf 23 = 1 := by kernel_rfl
theorem cells_nodes : Tryz.prog.cellsOf 22 = 1 := by kernel_rfl
theorem under_kind : Tryz.prog.underlying 35 = some (.int .u8) := by kernel_rfl
theorem bs_toList (s : ByteArray) : bs s.data.toList = s := by cases s; simp [bs]
theorem open_names {fuel : Nat} {cs : List Value} {x : DataW H × List MemPlace} (h : DataW.trod enc Tryz.prog W 0 (fun _ => true) true fuel 23 cs = some x) :
    ∃ A c names, cs = [.slice A names.length c] ∧ RdS W A c names ∧ names.length ≤ Rows.uptoBulk x.1 ∧ ∀ s ∈ names, s.length ≤ Rows.uptoBulk x.1 := by
  rcases open_strings Tryz.underlying23 Tryz.underlying9 cells_strs h with ⟨rfl, rfl⟩ | ⟨a, len, cap, ss, rfl, _, hl, hm, hz, rfl, hcell, hsz⟩
  · exact ⟨none, 0, [], rfl, ⟨⟨rfl, Nat.zero_le _, fun h => absurd h (by simp)⟩, Nat.le_refl _⟩, Nat.zero_le _, fun _ h => by cases h⟩
  · have hz' : ss.length = cap := by simpa using hz
    have hlen : (ss.take len).length = len := by simp; omega
    obtain ⟨b1, b2⟩ := bulk_strs (H := H) (ss.take len)
    have hb : Rows.uptoBulkAll (strs (H := H) (ss.take len)) ≤ Rows.uptoBulk (.slice (strs (H := H) (ss.take len)) (strs (ss.drop len))) := by simp only [Rows.uptoBulk]; omega
    have hmap : ((ss.take len).map (fun s => s.data.toList)).map bs = ss.take len := by
      rw [List.map_map]
      conv => rhs; rw [← List.map_id (ss.take len)]
      exact List.map_congr_left fun s _ => bs_toList s
    refine ⟨some a, cap, (ss.take len).map (fun s => s.data.toList), by rw [List.length_map, hlen], ⟨?_, by rw [List.length_map, hlen]; exact hl⟩, by simp only [List.length_map]; omega, ?_⟩
    · rw [hmap]
      refine ⟨by simp, by simp only [List.length_map, hlen]; unfold maxLen at hm; omega, fun _ => ⟨a, rfl, fun j p hp => ⟨[.string p], rfl, rfl, fun i u hu => ?_⟩⟩⟩
      have hj : j < len := by have := (List.getElem?_eq_some_iff.1 hp).1; omega
      obtain ⟨rfl, rfl⟩ : i = 0 ∧ .string p = u := by cases i with | zero => exact ⟨rfl, by simpa using hu⟩ | succ i => simp at hu
      have hc := hcell j (by omega)
      rw [List.getElem?_take, if_pos hj] at hp
      rw [List.getD_eq_getElem?_getD, hp] at hc
      show W.cell? (a.add (j * 1 + 0)) = _
      rw [Nat.mul_one]
      exact hc
    · intro s hs
      obtain ⟨s', hs', rfl⟩ := List.mem_map.1 hs
      have := b2 s' hs'
      show s'.data.toList.length ≤ _
      rw [Array.length_toList]
      exact Nat.le_trans (show s'.data.size ≤ _ from this) hb
theorem five {α : Type} {l : List α} (h : l.length = 5) : ∃ a b c d e, l = [a, b, c, d, e] :=
  match l, h with | [a, b, c, d, e], _ => ⟨a, b, c, d, e, rfl⟩
def Elem (W : World) (ad : Addr) (j : Nat) (y : DataW H) : Prop :=
  ∃ k t p a b, (∃ c, c.length = 5 ∧ kN.K W ⟨(k : Nat), bs t, p.map bs, Nodes.of a, Nodes.of b⟩ c ∧ ∀ i u, c[i]? = some u → W.cell? (ad.add (j * 5 + i)) = some u) ∧
    (Rows.uptoBulk y ≤ 1048576 → (Nodes.cons k t p a b .nil).sm) ∧ 1 + a.cnt + b.cnt ≤ Rows.uptoBulk y
theorem gather {ad : Addr} : ∀ (ys : List (DataW H)) (o : Nat), (∀ j y, ys[j]? = some y → Elem W ad (o + j) y) →
    ∃ l : Nodes, l.len = ys.length ∧ (∀ j x, l.of[j]? = some x → ∃ c, c.length = 5 ∧ kN.K W x c ∧ ∀ i u, c[i]? = some u → W.cell? (ad.add ((o + j) * 5 + i)) = some u) ∧
      (Rows.uptoBulkAll ys ≤ 1048576 → l.sm) ∧ l.cnt ≤ Rows.uptoBulkAll ys := by
  intro ys
  induction ys with
  | nil => exact fun o _ => ⟨.nil, rfl, fun j x h => by simp [Nodes.of] at h, fun _ => trivial, Nat.zero_le _⟩
  | cons y ys ih =>
    intro o h
    obtain ⟨r, h1, h2, h3, h4⟩ := ih (o + 1) (fun j z hz => by have := h (j + 1) z (by simpa using hz); rwa [show o + (j + 1) = o + 1 + j by omega] at this)
    obtain ⟨k, t, p, a, b, hc, hs, hn⟩ := h 0 y rfl
    refine ⟨.cons k t p a b r, by simp [Nodes.len, h1], ?_, ?_, ?_⟩
    · intro j x hx
      cases j with
      | zero =>
        have : (⟨(k : Nat), bs t, p.map bs, Nodes.of a, Nodes.of b⟩ : SN) = x := by simpa [Nodes.of] using hx
        subst this
        exact hc
      | succ j =>
        have := h2 j x (by simpa [Nodes.of] using hx)
        rwa [show o + 1 + j = o + (j + 1) by omega] at this
    · intro hb
      simp only [Rows.uptoBulkAll] at hb
      obtain ⟨g1, g2, g3, g4, g5, g6, g7, g8, _⟩ := hs (by omega)
      exact ⟨g1, g2, g3, g4, g5, g6, g7, g8, h3 (by omega)⟩
    · simp only [Rows.uptoBulkAll, Nodes.cnt]
      omega
theorem cnt_len (l : Nodes) : l.len ≤ l.cnt := by
  induction l with
  | nil => exact Nat.le_refl _
  | cons k t p a b r _ _ ih => simp only [Nodes.len, Nodes.cnt]; omega
theorem open_nodes : ∀ (fuel : Nat) (cs : List Value) (x : DataW H × List MemPlace), DataW.trod enc Tryz.prog W 0 (fun _ => true) true fuel 22 cs = some x →
    ∃ A c l, cs = [.slice A (Nodes.len l) c] ∧ Nodes.Rd W A c l ∧ (Rows.uptoBulk x.1 ≤ 1048576 → l.sm) ∧ l.cnt + 1 ≤ Rows.uptoBulk x.1 := by
  intro fuel
  induction fuel using Nat.strongRecOn with
  | ind fuel ih =>
  intro cs x h
  rcases DataW.trod_slice Tryz.underlying22 h with ⟨rfl, rfl⟩ | ⟨ad, len, cap, elems, rest, n, rfl, rfl, rfl, _, hl, hm, hlen, hel, _, _⟩
  · exact ⟨none, 0, .nil, rfl, ⟨⟨rfl, Nat.zero_le _, fun h => absurd h (by simp [Nodes.len])⟩, Nat.le_refl _⟩, fun _ => trivial, Nat.le_refl _⟩
  · have each : ∀ j y, (elems.map (·.1))[j]? = some y → Elem W ad (0 + j) y := by
      intro j y hy
      rw [List.getElem?_map] at hy
      obtain ⟨z, hz, rfl⟩ := Option.map_eq_some_iff.1 hy
      have hj : j < len := by have := (List.getElem?_eq_some_iff.1 hz).1; omega
      have hb := hel j hj
      rw [hz, cells_node, Option.bind_eq_some_iff] at hb
      obtain ⟨c, hc, hd⟩ := hb
      obtain ⟨_, hc5, hcell⟩ := World.cells?_some hc
      obtain ⟨xs, m, rfl, rfl, _, hxs, hf⟩ := DataW.trod_struct Tryz.underlying37 hd
      obtain ⟨y0, y1, y2, y3, y4, rfl⟩ := five hxs
      obtain ⟨v0, v1, v2, v3, v4, rfl⟩ := five hc5
      have f0 := hf 0 _ rfl
      have f1 := hf 1 _ rfl
      have f2 := hf 2 _ rfl
      have f3 := hf 3 _ rfl
      have f4 := hf 4 _ rfl
      simp only [List.getElem_toArray, List.getElem_cons_zero, List.getElem_cons_succ, cells_kind] at f0
      simp only [List.getElem_toArray, List.getElem_cons_zero, List.getElem_cons_succ, cells_strs] at f1
      simp only [List.getElem_toArray, List.getElem_cons_zero, List.getElem_cons_succ, cells_names] at f2
      simp only [List.getElem_toArray, List.getElem_cons_zero, List.getElem_cons_succ, cells_nodes] at f3 f4
      obtain ⟨k, e0, rfl, hk⟩ := DataW.trod_int under_kind f0
      obtain ⟨s, e1, rfl, hs⟩ := DataW.trod_string Tryz.underlying9 f1
      obtain ⟨A2, c2, p, e2, hp, lp, sp⟩ := open_names f2
      obtain ⟨A3, c3, a, e3, ha, sa, na⟩ := ih m (by omega) _ _ f3
      obtain ⟨A4, c4, b, e4, hb, sb, nb⟩ := ih m (by omega) _ _ f4
      simp only [List.drop, List.take, List.cons.injEq, and_true] at e0 e1 e2 e3 e4
      subst e0 e1 e2 e3 e4
      have hk' : 0 ≤ k ∧ k < 256 := by
        have h1 : IntKind.u8.min = 0 := by decide
        have h2 : IntKind.u8.max = 255 := by decide
        have := hk
        simp [Lit.wf, h1, h2] at this
        omega
      obtain ⟨k, rfl⟩ : ∃ q : Nat, k = q := ⟨k.toNat, by omega⟩
      refine ⟨k, s.data.toList, p, a, b, ⟨[.int .u8 k, .string s, .slice A2 p.length c2, .slice A3 (Nodes.len a) c3, .slice A4 (Nodes.len b) c4], rfl, ?_, fun i u hu => ?_⟩, ?_, ?_⟩
      · rw [bs_toList]
        have := k37_mk W (⟨(k : Nat), s, p.map bs, Nodes.of a, Nodes.of b⟩ : SN) (A2 := A2) (c2 := c2) (by simpa using hp.2) (by simpa using hp.1) (A3 := A3) (c3 := c3) (by simpa [Nodes.of_len] using ha.2) (by simpa [Nodes.of_len] using ha.1) (A4 := A4) (c4 := c4) (by simpa [Nodes.of_len] using hb.2) (by simpa [Nodes.of_len] using hb.1)
        simpa [Nodes.of_len] using this
      · have hi : i < 5 := by have := (List.getElem?_eq_some_iff.1 hu).1; simpa using this
        rw [Nat.zero_add, ← hu, ← hcell i hi, Go.Deep.add_add]
      · intro hbk
        simp only [List.map_cons, List.map_nil, Rows.uptoBulk, Rows.uptoBulkAll] at hbk
        refine ⟨by omega, by omega, by omega, fun q hq => ?_, ?_, ?_, sa (by omega), sb (by omega), trivial⟩
        · have := sp q hq; omega
        · have := cnt_len a; omega
        · have := cnt_len b; omega
      · simp only [List.map_cons, List.map_nil, Rows.uptoBulk, Rows.uptoBulkAll]
        omega
    obtain ⟨l, h1, h2, h3, h4⟩ := gather (elems.map (·.1)) 0 each
    have h1' : l.len = len := by rw [h1, List.length_map, hlen]
    refine ⟨some ad, cap, l, by rw [h1'], ⟨⟨Nodes.of_len l, by rw [h1']; unfold maxLen at hm; omega, fun _ => ⟨ad, rfl, fun j p hp => ?_⟩⟩, by omega⟩, ?_, ?_⟩
    · have := h2 j p hp
      rwa [Nat.zero_add] at this
    · intro hb
      simp only [Rows.uptoBulk] at hb
      exact h3 (by omega)
    · simp only [Rows.uptoBulk]
      omega
end
end Go.Proofs.YtniibpndgcndbaaGreatDoor.Tpl
namespace Go.Proofs.YtniibpndgcndbaaGreatDoor.Tpl
open Go.RowKit
theorem gErr : Tryz.prog.globalNamed "bellman/tree.errPair" = some 1 := by kernel_rfl
theorem tErr : (Tryz.prog.globals[1]?).map (·.type) = some 83 := by kernel_rfl
theorem starErr : "*" ++ "errors.errorString" = "*errors.errorString" := by decide
theorem rowErr (u : TypeId) (h : Tryz.prog.typeName? 3 u = some "*errors.errorString") : u = 266 :=
  typeName_ptr_named (nm := "errors.errorString") (by rw [starErr]; kernel_rfl) (by kernel_rfl) (by decide) u (by rw [starErr]; exact h)
theorem glob_of_sentinel {W : World} {r : List (String × DataW Unit)} (hW : W.ShapedOpen Tryz.prog) (h : laidMet Tryz.prog (("bellman/tree.errPair", Rows.laid_bellman_tree_errPair) :: r) W) : Glob W := by
  refine ⟨cell_of_shapedOpen_int (g := 3) (zero := #[.int .i64 0]) (t := 3) hW (of_decide_eq_true (by kernel_rfl)) (by kernel_rfl) rfl (by kernel_rfl) (by kernel_rfl) Tryz.underlying3, ?_⟩
  obtain ⟨a, s, hv, _⟩ := laid_sentinel (n := "bellman/tree.errPair") (nm := "*errors.errorString") h gErr tErr Tryz.underlying83 rowErr Tryz.underlying266 Tryz.underlying284 rfl rfl Tryz.underlying9 (by kernel_rfl) (by kernel_rfl)
  exact ⟨a, by simpa using World.var?_cell gErr hv 0⟩
def vetLaid : List (String × DataW Unit) := [("unicode/utf8.acceptRanges", Rows.laid_unicode_utf8_acceptRanges), ("bellman/tree.errPair", Rows.laid_bellman_tree_errPair), ("unicode/utf8.first", Rows.laid_unicode_utf8_first)]
theorem glob_of_laid {W : World} (hW : W.ShapedOpen Tryz.prog) (h : laidMetH Tryz.prog vetLaid W) : Glob W := by
  rw [MakeChecks.laidMetH_plain _ _ _ (by kernel_rfl)] at h
  exact glob_of_sentinel hW (laidMet.tail h)
end Go.Proofs.YtniibpndgcndbaaGreatDoor.Tpl
