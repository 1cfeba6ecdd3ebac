/- Part 4 of the proof (texts of this claim, merged in build order; what the claim does not need has been left out). -/
import Derived.Test.YtniibpndgcndbaaGreatDoorVtC3
import Derived.LaidHandle
import Derived.LaidMore
import Derived.OpenShut
import Derived.Shelf.Vars
import Derived.SliceStrings
import Derived.Stop.LaidErr
import Derived.Test.YtniibpndgcndbaaGreatDoorRows
set_option linter.unusedVariables false
set_option linter.unusedSimpArgs false
namespace Go.Proofs.YtniibpndgcndbaaGreatDoor.Tpl
open Go.RowKit Go.Proofs Go.Shelf Go.Proofs.YtniibpndgcndbaaGreatDoor.PB Go.Proofs.YtniibpndgcndbaaGreatDoor.Short Go.Proofs.YtniibpndgcndbaaGreatDoorW.PrintWords Go.Proofs.YtniibpndgcndbaaGreatDoorW.PrintLast Go.Proofs.YtniibpndgcndbaaGreatDoorW.PrintMore Nodes
theorem fold_cnt (l : Nodes) : foldP (fun n _ => n + 1) l = l.cnt := by
  unfold foldP
  have : ∀ (xs : List Look) a, xs.foldl (fun n _ => n + 1) a = a + xs.length := by
    intro xs
    induction xs with
    | nil => intro a; rfl
    | cons x r ih => intro a; rw [List.foldl_cons, ih, List.length_cons]; omega
  rw [this, flat_len]; omega
theorem depth_any (l : Nodes) (A : Option Addr) (c : Nat) (w : World) (hG : Glob w) (hs : l.sm) (hR : Rd w A c l) (hl : l.len ≤ 1048576) (hc : l.cnt ≤ 1048576) :
    Calls Tryz.prog 14 #[.slice A l.len c] w fun e w' => e = .returned (.tuple #[.int .i64 (if l.chk = true then (l.depthP : Int) else 0), .int .i64 (if l.chk = true then 0 else 2)]) ∧ Below w.heap.size w w' := by
  have h := folded_any 45 (fun n x => max n x.lv) (enters_of Tryz.func45 (by kernel_rfl) rfl) on_depth (fun m x _ h2 => by omega) l A c w hG hs hR hl hc
  rw [show foldP (fun n x => max n x.lv) l = l.depthP from depth_flat l] at h
  generalize (if l.chk = true then (l.depthP : Int) else 0) = r at *
  generalize (if l.chk = true then (0 : Int) else 2) = r2 at *
  clear hG hs hR
  go_enter Tryz.func14, Tryz.ntmps14
  go_wp2_with fail
  refine h.mono ?_
  rintro e w1 ⟨rfl, hb⟩
  go_wp2
  go_ret2
  exact ⟨rfl, hb⟩
theorem count_any (l : Nodes) (A : Option Addr) (c : Nat) (w : World) (hG : Glob w) (hs : l.sm) (hR : Rd w A c l) (hl : l.len ≤ 1048576) (hc : l.cnt ≤ 1048576) :
    Calls Tryz.prog 16 #[.slice A l.len c] w fun e w' => e = .returned (.tuple #[.int .i64 (if l.chk = true then (l.cnt : Int) else 0), .int .i64 (if l.chk = true then 0 else 2)]) ∧ Below w.heap.size w w' := by
  have h := folded_any 47 (fun n _ => n + 1) (enters_of Tryz.func47 (by kernel_rfl) rfl) on_count (fun m x _ h2 => by omega) l A c w hG hs hR hl hc
  rw [fold_cnt l] at h
  generalize (if l.chk = true then (l.cnt : Int) else 0) = r at *
  generalize (if l.chk = true then (0 : Int) else 2) = r2 at *
  clear hG hs hR
  go_enter Tryz.func16, Tryz.ntmps16
  go_wp2_with fail
  refine h.mono ?_
  rintro e w1 ⟨rfl, hb⟩
  go_wp2
  go_ret2
  exact ⟨rfl, hb⟩
theorem plain_any (l : Nodes) (A : Option Addr) (c : Nat) (w : World) (hG : Glob w) (hs : l.sm) (hR : Rd w A c l) (hl : l.len ≤ 1048576) (hc : l.cnt ≤ 1048576) :
    Calls Tryz.prog 18 #[.slice A l.len c] w fun e w' => e = .returned (.tuple #[.int .i64 (if l.chk = true then (l.plainP : Int) else 0), .int .i64 (if l.chk = true then 0 else 2)]) ∧ Below w.heap.size w w' := by
  have h := folded_any 49 (fun n x => n + x.t.length) (enters_of Tryz.func49 (by kernel_rfl) rfl) on_plain (fun m x h1 _ => by omega) l A c w hG hs hR hl hc
  rw [show foldP (fun n x => n + x.t.length) l = l.plainP from by unfold foldP; rw [plain_flat]; omega] at h
  generalize (if l.chk = true then (l.plainP : Int) else 0) = r at *
  generalize (if l.chk = true then (0 : Int) else 2) = r2 at *
  clear hG hs hR
  go_enter Tryz.func18, Tryz.ntmps18
  go_wp2_with fail
  refine h.mono ?_
  rintro e w1 ⟨rfl, hb⟩
  go_wp2
  go_ret2
  exact ⟨rfl, hb⟩
end Go.Proofs.YtniibpndgcndbaaGreatDoor.Tpl
namespace Go.Proofs.YtniibpndgcndbaaGreatDoor.Tpl
open Go.RowKit Go.Proofs Go.Proofs.YtniibpndgcndbaaGreatDoor.PB Go.Proofs.YtniibpndgcndbaaGreatDoor.Short Go.Proofs.YtniibpndgcndbaaGreatDoorW.PrintWords Go.Proofs.YtniibpndgcndbaaGreatDoorW.PrintLast Go.Proofs.YtniibpndgcndbaaGreatDoorW.PrintMore Nodes
def src1 : S := [123, 123, 101, 97, 99, 104, 32, 105, 116, 101, 109, 115, 125, 125, 123, 123, 116, 104, 105, 115, 46, 97, 125, 125, 123, 123, 98, 125, 125, 33, 123, 123, 101, 110, 100, 125, 125]
def src2 : S := [123, 123, 105, 102, 32, 116, 104, 105, 115, 125, 125, 123, 123, 101, 110, 100, 125, 125]
def sItems : S := [105, 116, 101, 109, 115]
def sB : S := [98]
def sC : S := [99]
def nd1 : Nodes := cons 5 [] [sItems] (cons 2 [] [thisS, [97]] nil nil (cons 2 [] [sB] nil nil (cons 1 [33] [] nil nil nil))) nil nil
def nd2 : Nodes := cons 3 [] [thisS] nil nil nil
def nd3 : Nodes := cons 0 [] [] nil nil nil
theorem parse1 : parseS src1 = .ok nd1 := by kernel_rfl
theorem parse2 : parseS src2 = .ok nd2 := by kernel_rfl
theorem nd1_chk : nd1.chk = true := by kernel_rfl
theorem nd1_roots : rootsOf nd1 = [sB, sItems] := by kernel_rfl
theorem nd1_cnt : nd1.cnt = 4 := by kernel_rfl
theorem nd1_depth : nd1.depthP = 2 := by kernel_rfl
theorem nd1_plain : nd1.plainP = 1 := by kernel_rfl
theorem nd1_this : thisP nd1 = 0 := by kernel_rfl
theorem nd2_this : thisP nd2 = 13 := by kernel_rfl
theorem nd1_only1 : onlyP nd1 [sItems] = 13 := by kernel_rfl
theorem nd1_only3 : onlyP nd1 [sItems, sB, sC] = 0 := by kernel_rfl
theorem nd3_only : onlyP nd3 [] = 2 := by kernel_rfl
theorem nd1_sm : nd1.sm := by simp [nd1, sm, sItems, sB, thisS, len]
theorem nd2_sm : nd2.sm := by simp [nd2, sm, thisS, len]
theorem nd3_sm : nd3.sm := by simp [nd3, sm, len]
theorem same_any (A : Option Addr) (c : Nat) (p : List S) (B : Option Addr) (d : Nat) (q : List S) (w : World) (hp : RdS w A c p) (hq : RdS w B d q) (hl : p.length ≤ 1048576) :
    Calls Tryz.prog 21 #[.slice A p.length c, .slice B q.length d] w fun e w' => e = .returned (.bool (decide (p = q))) ∧ Below w.heap.size w w' := by
  obtain ⟨k, hk⟩ := same_f p q hl
  have h := bellmanref01_SameTexts.calls k A c (p.map bs) B d (q.map bs) _ w (by rw [List.length_map]; exact hp.1) (by rw [List.length_map]; exact hp.2) (by rw [List.length_map]; exact hq.1) (by rw [List.length_map]; exact hq.2) hk
  rw [List.length_map, List.length_map] at h
  refine h.mono ?_
  rintro e w' ⟨rfl, hd⟩
  exact ⟨rfl, hd.below⟩
theorem lit_S (l : List S) (W : World) (hl : l.length ≤ 1048576) : RdS (W.alloc (.cells ((l.map bs).map Value.string).toArray 9)) (some ⟨W.heap.size, 0, none⟩) l.length l := by
  have h := lit_C (l.map bs) W (by rw [List.length_map]; exact hl)
  rw [List.length_map] at h
  exact ⟨h, Nat.le_refl _⟩
theorem nd3_rd (w : World) : Rd (w.alloc (.cells #[.int .u8 0, .string ⟨#[]⟩, .slice none 0 0, .slice none 0 0, .slice none 0 0] 37)) (some ⟨w.heap.size, 0, none⟩) 1 nd3 := by
  refine ⟨⟨rfl, by decide, fun _ => ⟨_, rfl, fun i x hx => ?_⟩⟩, by decide⟩
  have hi : i = 0 := by
    have := (List.getElem?_eq_some_iff.1 hx).1
    simp [nd3, of] at this; exact this
  subst hi
  obtain rfl : (⟨0, bs [], [], [], []⟩ : SN) = x := by simpa [nd3, of] using hx
  refine ⟨_, rfl, k37_mk _ (⟨0, bs [], [], [], []⟩ : SN) (A2 := none) (c2 := 0) (Nat.le_refl _) (Kd.C_nil _ _) (A3 := none) (c3 := 0) (Nat.le_refl _) (Kd.C_nil _ _) (A4 := none) (c4 := 0) (Nat.le_refl _) (Kd.C_nil _ _), fun j v hv => ?_⟩
  have BK := blk_new w (.cells #[.int .u8 0, .string ⟨#[]⟩, .slice none 0 0, .slice none 0 0, .slice none 0 0] 37)
  have hc := blk_cell BK j
  have e : (Addr.add ⟨w.heap.size, 0, none⟩ (0 * kN.sz + j)) = ⟨w.heap.size, j, none⟩ := by rw [Addr.add_lit]; congr 1; omega
  show World.cell? _ (Addr.add ⟨w.heap.size, 0, none⟩ (0 * kN.sz + j)) = some v
  rw [e, hc, ← hv]
  simp [bs]
set_option maxHeartbeats 4000000 in
set_option maxRecDepth 100000 in
theorem lives_any (w : World) (hG : Glob w) : Calls Tryz.prog 20 #[] w fun e w' => e = .returned (.bool true) ∧ Below w.heap.size w w' := by
  have HG := Aside0.mk hG
  have H1 := Aside0.mk (fun W (hW : Below w.heap.size w W) => parse_any src1 (by decide) W (HG.out.below hW))
  have H2 := Aside0.mk (fun W (hW : Below w.heap.size w W) => parse_any src2 (by decide) W (HG.out.below hW))
  rw [parse1] at H1
  rw [parse2] at H2
  clear hG
  go_enter Tryz.func20, Tryz.ntmps20
  go_wp2_with fail
  refine (H1.out w (Below.refl _ _)).mono ?_
  rintro e W1 ⟨hb, A1, c1, rfl, _, hR⟩
  have HB1 := Aside0.mk hb
  have HR1 := Aside0.mk hR
  clear hb hR
  go_wp2_with fail
  refine (roots2_any nd1 A1 c1 W1 (HG.out.below HB1.out) nd1_sm HR1.out (by decide) (by decide)).mono ?_
  rintro e W2 ⟨A2, c2, rfl, hS, hb⟩
  rw [nd1_roots] at hS ⊢
  rw [nd1_chk]
  have HB2 := Aside0.mk (below_step HB1.out hb)
  have HR2 := Aside0.mk (HR1.out.below hb)
  have HS2 := Aside0.mk hS
  clear hb hS
  simp only [if_true]
  go_wp2_with fail
  refine (count_any nd1 A1 c1 W2 (HG.out.below HB2.out) nd1_sm HR2.out (by decide) (by decide)).mono ?_
  rintro e W3 ⟨rfl, hb⟩
  rw [nd1_chk, nd1_cnt]
  have HB3 := Aside0.mk (below_step HB2.out hb)
  have HR3 := Aside0.mk (HR2.out.below hb)
  have HS3 := Aside0.mk (HS2.out.below hb)
  clear hb
  simp only [if_true]
  go_wp2_with fail
  refine (depth_any nd1 A1 c1 W3 (HG.out.below HB3.out) nd1_sm HR3.out (by decide) (by decide)).mono ?_
  rintro e W4 ⟨rfl, hb⟩
  rw [nd1_chk, nd1_depth]
  have HB4 := Aside0.mk (below_step HB3.out hb)
  have HR4 := Aside0.mk (HR3.out.below hb)
  have HS4 := Aside0.mk (HS3.out.below hb)
  clear hb
  simp only [if_true]
  go_wp2_with fail
  refine (plain_any nd1 A1 c1 W4 (HG.out.below HB4.out) nd1_sm HR4.out (by decide) (by decide)).mono ?_
  rintro e W5 ⟨rfl, hb⟩
  rw [nd1_chk, nd1_plain]
  have HB5 := Aside0.mk (below_step HB4.out hb)
  have HR5 := Aside0.mk (HR4.out.below hb)
  have HS5 := Aside0.mk (HS4.out.below hb)
  clear hb
  simp only [if_true]
  go_wp2_with fail
  refine (H2.out W5 HB5.out).mono ?_
  rintro e W6 ⟨hb, A3, c3, rfl, _, hR⟩
  have HB6 := Aside0.mk (below_step HB5.out hb)
  have HR6 := Aside0.mk (HR5.out.below hb)
  have HS6 := Aside0.mk (HS5.out.below hb)
  have HT6 := Aside0.mk hR
  clear hb hR
  go_wp2_with fail
  have HB6a := Aside0.mk (below_alloc HB6.out (.cells ((([sB, sItems] : List S).map bs).map Value.string).toArray 9))
  have HR6a := Aside0.mk (HR6.out.below (below_alloc (Below.refl W6.heap.size W6) (.cells ((([sB, sItems] : List S).map bs).map Value.string).toArray 9)))
  have HT6a := Aside0.mk (HT6.out.below (below_alloc (Below.refl W6.heap.size W6) (.cells ((([sB, sItems] : List S).map bs).map Value.string).toArray 9)))
  refine (same_any A2 c2 [sB, sItems] (some ⟨W6.heap.size, 0, none⟩) 2 [sB, sItems] _ (HS6.out.below (below_alloc (Below.refl _ _) _)) (lit_S [sB, sItems] W6 (by decide)) (by decide)).mono ?_
  rintro e W7 ⟨rfl, hb⟩
  rw [decide_eq_true (show [sB, sItems] = [sB, sItems] from rfl)]
  have HB7 := Aside0.mk (below_step HB6a.out hb)
  have HR7 := Aside0.mk (HR6a.out.below hb)
  have HT7 := Aside0.mk (HT6a.out.below hb)
  clear hb
  go_wp2_with fail
  refine (this_any nd2 A3 c3 W7 (HG.out.below HB7.out) nd2_sm HT7.out (by decide) (by decide)).mono ?_
  rintro e W8 ⟨rfl, hb⟩
  rw [nd2_this]
  have HB8 := Aside0.mk (below_step HB7.out hb)
  have HR8 := Aside0.mk (HR7.out.below hb)
  have HT8 := Aside0.mk (HT7.out.below hb)
  clear hb
  go_wp2_with fail
  refine (this_any nd1 A1 c1 W8 (HG.out.below HB8.out) nd1_sm HR8.out (by decide) (by decide)).mono ?_
  rintro e W9 ⟨rfl, hb⟩
  rw [nd1_this]
  have HB9 := Aside0.mk (below_step HB8.out hb)
  have HR9 := Aside0.mk (HR8.out.below hb)
  have HT9 := Aside0.mk (HT8.out.below hb)
  clear hb
  go_wp2_with fail
  have HB9a := Aside0.mk (below_alloc HB9.out (.cells ((([sItems] : List S).map bs).map Value.string).toArray 9))
  have HR9a := Aside0.mk (HR9.out.below (below_alloc (Below.refl W9.heap.size W9) (.cells ((([sItems] : List S).map bs).map Value.string).toArray 9)))
  have HT9a := Aside0.mk (HT9.out.below (below_alloc (Below.refl W9.heap.size W9) (.cells ((([sItems] : List S).map bs).map Value.string).toArray 9)))
  refine (only_any nd1 A1 c1 (some ⟨W9.heap.size, 0, none⟩) 1 [sItems] _ (HG.out.below HB9a.out) nd1_sm HR9a.out (by decide) (by decide) (lit_S [sItems] W9 (by decide)) (by decide)).mono ?_
  rintro e W10 ⟨rfl, hb⟩
  rw [nd1_only1]
  have HB10 := Aside0.mk (below_step HB9a.out hb)
  have HR10 := Aside0.mk (HR9a.out.below hb)
  have HT10 := Aside0.mk (HT9a.out.below hb)
  clear hb
  go_wp2_with fail
  have HB10a := Aside0.mk (below_alloc HB10.out (.cells ((([sItems, sB, sC] : List S).map bs).map Value.string).toArray 9))
  have HR10a := Aside0.mk (HR10.out.below (below_alloc (Below.refl W10.heap.size W10) (.cells ((([sItems, sB, sC] : List S).map bs).map Value.string).toArray 9)))
  have HT10a := Aside0.mk (HT10.out.below (below_alloc (Below.refl W10.heap.size W10) (.cells ((([sItems, sB, sC] : List S).map bs).map Value.string).toArray 9)))
  refine (only_any nd1 A1 c1 (some ⟨W10.heap.size, 0, none⟩) 3 [sItems, sB, sC] _ (HG.out.below HB10a.out) nd1_sm HR10a.out (by decide) (by decide) (lit_S [sItems, sB, sC] W10 (by decide)) (by decide)).mono ?_
  rintro e W11 ⟨rfl, hb⟩
  rw [nd1_only3]
  have HB11 := Aside0.mk (below_step HB10a.out hb)
  have HR11 := Aside0.mk (HR10a.out.below hb)
  have HT11 := Aside0.mk (HT10a.out.below hb)
  clear hb
  go_wp2_with fail
  have HB11a := Aside0.mk (below_alloc HB11.out (.cells #[.int .u8 0, .string ⟨#[]⟩, .slice none 0 0, .slice none 0 0, .slice none 0 0] 37))
  have HR11a := Aside0.mk (HR11.out.below (below_alloc (Below.refl W11.heap.size W11) (.cells #[.int .u8 0, .string ⟨#[]⟩, .slice none 0 0, .slice none 0 0, .slice none 0 0] 37)))
  have HT11a := Aside0.mk (HT11.out.below (below_alloc (Below.refl W11.heap.size W11) (.cells #[.int .u8 0, .string ⟨#[]⟩, .slice none 0 0, .slice none 0 0, .slice none 0 0] 37)))
  refine (only_any nd3 (some ⟨W11.heap.size, 0, none⟩) 1 none 0 [] _ (HG.out.below HB11a.out) nd3_sm (nd3_rd W11) (by decide) (by decide) ⟨C_none _ _ _ rfl, Nat.zero_le _⟩ (by decide)).mono ?_
  rintro e W12 ⟨rfl, hb⟩
  rw [nd3_only]
  have HB12 := Aside0.mk (below_step HB11a.out hb)
  have HR12 := Aside0.mk (HR11a.out.below hb)
  have HT12 := Aside0.mk (HT11a.out.below hb)
  clear hb
  go_wp2
  go_ret
  exact ⟨rfl, HB12.out⟩
end Go.Proofs.YtniibpndgcndbaaGreatDoor.Tpl
namespace Go.Proofs.YtniibpndgcndbaaGreatDoor.Tpl
open Go.RowKit Go.Proofs Go.Proofs.YtniibpndgcndbaaGreatDoor.PB Go.Proofs.YtniibpndgcndbaaGreatDoor.Short Go.Proofs.YtniibpndgcndbaaGreatDoorW.PrintWords Go.Proofs.YtniibpndgcndbaaGreatDoorW.PrintLast Go.Proofs.YtniibpndgcndbaaGreatDoorW.PrintMore Nodes
attribute [local go_sem ↓] Go.wp_at_zero Go.wp_at_succ
def listS : S := [108, 105, 115, 116]
theorem lit_node (V : World) (k : Nat) (t : S) (p : List S) (a b : Nodes) (Ap : Option Addr) (cp : Nat) (Aa : Option Addr) (ca : Nat) (Ab : Option Addr) (cb : Nat) (hp : RdS V Ap cp p) (ha : Rd V Aa ca a) (hb : Rd V Ab cb b) :
    Rd (V.alloc (.cells #[.int .u8 k, .string (bs t), .slice Ap p.length cp, .slice Aa a.len ca, .slice Ab b.len cb] 37)) (some ⟨V.heap.size, 0, none⟩) 1 (cons k t p a b nil) := by
  have hB := below_alloc (Below.refl V.heap.size V) (.cells #[.int .u8 k, .string (bs t), .slice Ap p.length cp, .slice Aa a.len ca, .slice Ab b.len cb] 37)
  have h2 := RdS.below hp hB
  have h3 := ha.below hB
  have h4 := hb.below hB
  refine ⟨⟨rfl, (by decide : (1 : Nat) ≤ 9223372036854775807), fun _ => ⟨_, rfl, fun j x hj => ?_⟩⟩, Nat.le_refl _⟩
  cases j with
  | succ j => simp [of] at hj
  | zero =>
    have hx : (⟨(k : Nat), bs t, p.map bs, Nodes.of a, Nodes.of b⟩ : SN) = x := by simpa [of] using hj
    subst hx
    refine ⟨[.int .u8 k, .string (bs t), .slice Ap p.length cp, .slice Aa a.len ca, .slice Ab b.len cb], rfl, ?_, fun i u hu => ?_⟩
    · have := k37_mk (V.alloc (.cells #[.int .u8 k, .string (bs t), .slice Ap p.length cp, .slice Aa a.len ca, .slice Ab b.len cb] 37)) (⟨(k : Nat), bs t, p.map bs, Nodes.of a, Nodes.of b⟩ : SN) (A2 := Ap) (c2 := cp) (by simpa using h2.2) (by simpa using h2.1) (A3 := Aa) (c3 := ca) (by simpa [of_len] using h3.2) (by simpa [of_len] using h3.1) (A4 := Ab) (c4 := cb) (by simpa [of_len] using h4.2) (by simpa [of_len] using h4.1)
      simpa [of_len] using this
    · have e : Addr.add ⟨V.heap.size, 0, none⟩ (0 * Kd.sz kN + i) = ⟨V.heap.size, i, none⟩ := by unfold Addr.add; split <;> simp_all
      rw [e, World.cell?_alloc_at _ _ _ _ rfl, ← hu]
      simp
theorem litS1 (V : World) (s : S) : RdS (V.alloc (.cells #[.string (bs s)] 9)) (some ⟨V.heap.size, 0, none⟩) 1 [s] := ⟨lit_C [bs s] V (by simp), Nat.le_refl _⟩
theorem within_only (l : Nodes) (h : l.chk = true) (h' : (eachN l listS).chk = true) : onlyP (eachN l listS) (rootsOf l ++ [listS]) = 0 := by
  unfold onlyP rootsOf
  rw [if_pos h', if_pos h, if_pos]
  rw [List.all_eq_true]
  intro x hx
  rw [each_roots l listS x rfl] at hx
  rcases hx with rfl | hx <;> simp [*]
theorem within_this (l : Nodes) (h' : (eachN l listS).chk = true) : thisP (eachN l listS) = 0 := by
  unfold thisP
  rw [if_pos h', if_neg]
  rw [each_lost l listS rfl]; simp
theorem each_sm (l : Nodes) (hs : l.sm) (hl : l.len ≤ 1048576) : (eachN l listS).sm := by
  refine ⟨by decide, by decide, by decide, fun s hs => ?_, hl, by decide, hs, trivial, trivial⟩
  simp at hs; subst hs; decide
set_option maxHeartbeats 4000000 in
set_option maxRecDepth 100000 in
theorem within_any2 (l : Nodes) (A : Option Addr) (c : Nat) (w : World) (hG : Glob w) (hs : l.sm) (hR : Rd w A c l) (hl : l.len ≤ 1048576) (hc1 : l.cnt + 1 ≤ 1048576) :
    Calls Tryz.prog 6 #[.slice A l.len c] w fun e w' => e = .returned (.bool true) ∧ Below w.heap.size w w' := by
  have HG := Aside0.mk hG
  have HS := Aside0.mk hs
  have HR0 := Aside0.mk hR
  have hc : l.cnt ≤ 1048576 := by omega
  have HSe := Aside0.mk (each_sm l hs hl)
  have hle : (eachN l listS).len ≤ 1048576 := by show 1 ≤ 1048576; decide
  have hce : (eachN l listS).cnt ≤ 1048576 := by rw [each_cnt]; exact hc1
  have hrl : (rootsOf l).length ≤ 1048575 := by have := rootsOf_len l; omega
  have HB0 := Aside0.mk (Below.refl w.heap.size w)
  obtain ⟨k1, hk1⟩ : ∃ k : Int, (if l.chk = true then 0 else 2) = k := ⟨_, rfl⟩
  obtain ⟨rd1, hrd1⟩ : ∃ k : Int, (if l.chk = true then (l.depthP : Int) else 0) = k := ⟨_, rfl⟩
  obtain ⟨rc1, hrc1⟩ : ∃ k : Int, (if l.chk = true then (l.cnt : Int) else 0) = k := ⟨_, rfl⟩
  obtain ⟨k2, hk2⟩ : ∃ k : Int, (if (eachN l listS).chk = true then 0 else 2) = k := ⟨_, rfl⟩
  obtain ⟨rd2, hrd2⟩ : ∃ k : Int, (if (eachN l listS).chk = true then ((eachN l listS).depthP : Int) else 0) = k := ⟨_, rfl⟩
  obtain ⟨rc2, hrc2⟩ : ∃ k : Int, (if (eachN l listS).chk = true then ((eachN l listS).cnt : Int) else 0) = k := ⟨_, rfl⟩
  have HK1 := Aside0.mk hk1
  have HRD1 := Aside0.mk hrd1
  have HRC1 := Aside0.mk hrc1
  have HK2 := Aside0.mk hk2
  have HRD2 := Aside0.mk hrd2
  have HRC2 := Aside0.mk hrc2
  have HX : Aside0 (k1 = 2 ∨ (k1 = 0 ∧ k2 = 2) ∨ (k1 = 0 ∧ k2 = 0 ∧ IntKind.i64.wrap (rd2 - rd1) = 1 ∧ IntKind.i64.wrap (rc2 - rc1) = 1 ∧ onlyP (eachN l listS) (rootsOf l ++ [listS]) = 0 ∧ thisP (eachN l listS) = 0)) := by
    refine ⟨?_⟩
    cases h : l.chk with
    | false => rw [h] at hk1; exact .inl hk1.symm
    | true =>
      right
      rw [h] at hk1 hrd1 hrc1
      have e1 : k1 = 0 := hk1.symm
      cases h' : (eachN l listS).chk with
      | false => rw [h'] at hk2; exact .inl ⟨e1, hk2.symm⟩
      | true =>
        rw [h'] at hk2 hrd2 hrc2
        simp only [if_true] at hrd1 hrc1 hrd2 hrc2
        rw [each_depth] at hrd2
        rw [each_cnt] at hrc2
        refine .inr ⟨e1, hk2.symm, ?_, ?_, within_only l h h', within_this l h'⟩
        · rw [← hrd1, ← hrd2, show ((l.depthP + 1 : Nat) : Int) - (l.depthP : Int) = 1 by omega]; decide
        · rw [← hrc1, ← hrc2, show ((l.cnt + 1 : Nat) : Int) - (l.cnt : Int) = 1 by omega]; decide
  clear hG hs hR hk1 hrd1 hrc1 hk2 hrd2 hrc2
  go_enter Tryz.func6, Tryz.ntmps6
  go_wp2_with fail
  refine (lives_any w (HG.out.below HB0.out)).mono ?_
  rintro e W1 ⟨rfl, hb⟩
  have HB1 := Aside0.mk (below_step HB0.out hb)
  have HR1 := Aside0.mk (HR0.out.below hb)
  clear hb
  have hn := lit_node (W1.alloc (.cells #[.string (bs listS)] 9)) 5 [] [listS] l nil (some ⟨W1.heap.size, 0, none⟩) 1 A c none 0 (litS1 W1 listS) (HR1.out.below (below_alloc (Below.refl _ _) _)) ⟨⟨rfl, Nat.zero_le _, fun h => absurd h (by simp [len])⟩, Nat.le_refl _⟩
  have hbv := below_alloc (below_alloc (Below.refl W1.heap.size W1) (.cells #[.string (bs listS)] 9)) (.cells #[.int .u8 (5 : Nat), .string (bs []), .slice (some ⟨W1.heap.size, 0, none⟩) [listS].length 1, .slice A l.len c, .slice none nil.len 0] 37)
  have HV := Aside0.mk hn
  have HBV := Aside0.mk hbv
  clear hn hbv
  have HV1 : Aside0 (Rd ((W1.alloc (.cells #[.string (bs listS)] 9)).alloc (.cells #[.int .u8 (5 : Nat), .string (bs []), .slice (some ⟨W1.heap.size, 0, none⟩) [listS].length 1, .slice A l.len c, .slice none nil.len 0] 37)) (some ⟨W1.heap.size + 1, 0, none⟩) 1 (eachN l listS)) := ⟨by have h := HV.out; rw [World.size_alloc] at h; exact h⟩
  clear HV
  go_wp2_with fail
  refine (depth_any l A c _ (HG.out.below (below_step HB1.out HBV.out)) HS.out (HR1.out.below HBV.out) hl hc).mono ?_
  rintro e W2 ⟨rfl, hb⟩
  rw [HRD1.out, HK1.out]
  have HB2 := Aside0.mk (below_step (below_step HB1.out HBV.out) hb)
  have HR2 := Aside0.mk ((HR1.out.below HBV.out).below hb)
  have HV2 := Aside0.mk (HV1.out.below hb)
  clear hb HBV HV1
  go_wp2_with fail
  refine (depth_any (eachN l listS) (some ⟨W1.heap.size + 1, 0, none⟩) 1 W2 (HG.out.below HB2.out) HSe.out HV2.out hle hce).mono ?_
  rintro e W3 ⟨rfl, hb⟩
  rw [HRD2.out, HK2.out]
  have HB3 := Aside0.mk (below_step HB2.out hb)
  have HR3 := Aside0.mk (HR2.out.below hb)
  have HV3 := Aside0.mk (HV2.out.below hb)
  clear hb
  go_wp2_with fail
  refine (count_any l A c W3 (HG.out.below HB3.out) HS.out HR3.out hl hc).mono ?_
  rintro e W4 ⟨rfl, hb⟩
  rw [HRC1.out, HK1.out]
  have HB4 := Aside0.mk (below_step HB3.out hb)
  have HR4 := Aside0.mk (HR3.out.below hb)
  have HV4 := Aside0.mk (HV3.out.below hb)
  clear hb
  go_wp2_with fail
  refine (count_any (eachN l listS) (some ⟨W1.heap.size + 1, 0, none⟩) 1 W4 (HG.out.below HB4.out) HSe.out HV4.out hle hce).mono ?_
  rintro e W5 ⟨rfl, hb⟩
  rw [HRC2.out, HK2.out]
  have HB5 := Aside0.mk (below_step HB4.out hb)
  have HR5 := Aside0.mk (HR4.out.below hb)
  have HV5 := Aside0.mk (HV4.out.below hb)
  clear hb
  rcases HX.out with h1 | ⟨h1, h2⟩ | ⟨h1, h2, h3, h4, h5, h6⟩
  · rw [h1]
    clear h1
    go_wp2
    go_ret
    exact ⟨rfl, HB5.out⟩
  · rw [h1, h2]
    clear h1 h2
    go_wp2
    go_ret
    exact ⟨rfl, HB5.out⟩
  · rw [h1, h2]
    have H5 := Aside0.mk h5
    have H6 := Aside0.mk h6
    have H0 := Aside0.mk h1
    clear h1 h2 h5 h6
    go_wp2_with fail
    refine (roots2_any l A c W5 (HG.out.below HB5.out) HS.out HR5.out hl hc).mono ?_
    rintro e W6 ⟨A2, c2, rfl, hS, hb⟩
    rw [HK1.out, H0.out]
    have HB6 := Aside0.mk (below_step HB5.out hb)
    have HV6 := Aside0.mk (HV5.out.below hb)
    have HA6 := Aside0.mk hS
    clear hS hb
    go_wp2_with fail
    refine (this_any (eachN l listS) (some ⟨W1.heap.size + 1, 0, none⟩) 1 W6 (HG.out.below HB6.out) HSe.out HV6.out hle hce).mono ?_
    rintro e W7 ⟨rfl, hb⟩
    rw [H6.out]
    have HB7 := Aside0.mk (below_step HB6.out hb)
    have HV7 := Aside0.mk (HV6.out.below hb)
    have HA7 := Aside0.mk (RdS.below HA6.out hb)
    have E0 : Aside0 (Kd.string.R 9 (W7.alloc (.cells #[] 9)) W7.heap.size (fun _ => True) (.slice (some ⟨W7.heap.size, 0, none⟩) 0 0) []) := ⟨lit_R [] W7 W7.heap.size (fun _ => True) (Nat.le_refl _) (by simp) trivial⟩
    have hle0 : ([] : List ByteArray).length + (rootsOf l).length ≤ 1048577 := by simp; omega
    have hle1 : ([] ++ (rootsOf l).map bs).length + 1 ≤ 1048577 := by simp; omega
    have Hf : Aside0 ([] ++ (rootsOf l).map bs ++ [bs listS] = (rootsOf l ++ [listS]).map bs) := ⟨by simp⟩
    clear hb
    go_wp2_with (at_builtin; refine gate_guard (by rfl) ?_; first
      | (refine Kd.R_append_rows Kd.string (w0 := W7) W7.heap.size rfl _ _ 23 9 _ 16 rfl Tryz.underlying23 info_str rfl (by decide) (by decide) (.slice (some ⟨W7.heap.size, 0, none⟩) 0 0) [] ((rootsOf l).map bs) A2 (rootsOf l).length c2 (fun _ => True) (fun _ => False) (by rfl) (by rfl) E0.out (Kd.C_below HA7.out.1 (below_alloc (Below.refl _ _) _)) (fun _ _ h => h) (fun _ h => h.elim) (fun _ _ => trivial) (below_alloc (Below.refl _ _) _) (below_alloc (Below.refl _ _) _).size (blk16 hle0) ?_; intro v1 w1 hR1 hB1 hg1 hat1)
      | (refine Kd.R_append_rows Kd.string (w0 := W7) W7.heap.size rfl _ _ 23 9 _ 16 rfl Tryz.underlying23 info_str rfl (by decide) (by decide) v1 ([] ++ (rootsOf l).map bs) [bs listS] (some ⟨w1.heap.size, 0, none⟩) 1 1 (fun _ => True) (fun _ => False) (by rfl) (by rfl) (Kd.R_alloc hR1 _) (lit_C [bs listS] w1 (by simp)) (fun _ _ h => h) (fun _ h => h.elim) (fun _ _ => trivial) (below_alloc hB1 _) (Nat.le_trans hB1.size (by simp)) (blk16 hle1) ?_; intro v2 w2 hR2 hB2 hg2 hat2))
    obtain ⟨ab, hx⟩ : ∃ p, rootsOf l ++ [listS] = p := ⟨_, rfl⟩
    have hxl : ab.length ≤ 1048576 := by rw [← hx, List.length_append]; simp; omega
    rw [Hf.out, hx] at hR2
    have H5' := H5.out
    rw [hx] at H5'
    obtain ⟨Ax, cx, rfl, hX⟩ := RdS.of_R hR2
    refine (only_any (eachN l listS) (some ⟨W1.heap.size + 1, 0, none⟩) 1 Ax cx ab w2 (HG.out.below (below_step HB7.out hB2)) HSe.out (HV7.out.below hB2) hle hce hX hxl).mono ?_
    rintro e W8 ⟨rfl, hb⟩
    rw [H5']
    have HB8 := Aside0.mk (below_step (below_step HB7.out hB2) hb)
    clear hb hR1 hB1 hg1 hat1 hg2 hat2 hR2 hX hB2 H5' hx
    go_wp2
    go_ret
    exact ⟨by simp, HB8.out⟩
end Go.Proofs.YtniibpndgcndbaaGreatDoor.Tpl
namespace Go.Proofs.YtniibpndgcndbaaGreatDoor.Tpl
open Go.RowKit Go.ChangeShapes Go.WideShapes Go.Proofs.YtniibpndgcndbaaGreatDoor.PB Go.Proofs.YtniibpndgcndbaaGreatDoorW.PrintWords
section
variable {H : Type} {enc : TypeId × Value → H} {W : World}
theorem bulk_strs (ss : List ByteArray) : (ss.length ≤ Rows.uptoBulkAll (strs (H := H) ss)) ∧ ∀ s ∈ ss, s.size ≤ Rows.uptoBulkAll (strs (H := H) ss) := by
  induction ss with
  | nil => exact ⟨Nat.zero_le _, fun _ h => by cases h⟩
  | cons s ss ih =>
    have e : Rows.uptoBulkAll (strs (H := H) (s :: ss)) = (s.size + 1) + Rows.uptoBulkAll (strs (H := H) ss) := by
      show Rows.uptoBulkAll (DataW.lit (.string s.data.toList) :: strs ss) = _
      simp only [Rows.uptoBulkAll, Rows.uptoBulk, Array.length_toList]
      rfl
    rw [e]
    refine ⟨by simp only [List.length_cons]; omega, fun x hx => ?_⟩
    rcases List.mem_cons.1 hx with rfl | hx
    · omega
    · have := ih.2 x hx; omega
theorem cells_strs : Tryz.prog.cellsOf 9 = 1 := by kernel_rfl
theorem cells_node : Tryz.prog.cellsOf 37 = 5 := by kernel_rfl
theorem cells_kind : Tryz.prog.cellsOf 35 = 1 := by kernel_rfl
theorem cells_names : Tryz.prog.cellsOf 23 = 1 := by kernel_rfl
theorem cells_nodes : Tryz.prog.cellsOf 22 = 1 := by kernel_rfl
theorem under_kind : Tryz.prog.underlying 35 = some (.int .u8) := by kernel_rfl
theorem bs_toList (s : ByteArray) : bs s.data.toList = s := by cases s; simp [bs]
theorem open_names {fuel : Nat} {cs : List Value} {x : DataW H × List MemPlace} (h : DataW.trod enc Tryz.prog W 0 (fun _ => true) true fuel 23 cs = some x) :
    ∃ A c names, cs = [.slice A names.length c] ∧ RdS W A c names ∧ names.length ≤ Rows.uptoBulk x.1 ∧ ∀ s ∈ names, s.length ≤ Rows.uptoBulk x.1 := by
  rcases open_strings Tryz.underlying23 Tryz.underlying9 cells_strs h with ⟨rfl, rfl⟩ | ⟨a, len, cap, ss, rfl, _, hl, hm, hz, rfl, hcell, hsz⟩
  · exact ⟨none, 0, [], rfl, ⟨⟨rfl, Nat.zero_le _, fun h => absurd h (by simp)⟩, Nat.le_refl _⟩, Nat.zero_le _, fun _ h => by cases h⟩
  · have hz' : ss.length = cap := by simpa using hz
    have hlen : (ss.take len).length = len := by simp; omega
    obtain ⟨b1, b2⟩ := bulk_strs (H := H) (ss.take len)
    have hb : Rows.uptoBulkAll (strs (H := H) (ss.take len)) ≤ Rows.uptoBulk (.slice (strs (H := H) (ss.take len)) (strs (ss.drop len))) := by simp only [Rows.uptoBulk]; omega
    have hmap : ((ss.take len).map (fun s => s.data.toList)).map bs = ss.take len := by
      rw [List.map_map]
      conv => rhs; rw [← List.map_id (ss.take len)]
      exact List.map_congr_left fun s _ => bs_toList s
    refine ⟨some a, cap, (ss.take len).map (fun s => s.data.toList), by rw [List.length_map, hlen], ⟨?_, by rw [List.length_map, hlen]; exact hl⟩, by simp only [List.length_map]; omega, ?_⟩
    · rw [hmap]
      refine ⟨by simp, by simp only [List.length_map, hlen]; unfold maxLen at hm; omega, fun _ => ⟨a, rfl, fun j p hp => ⟨[.string p], rfl, rfl, fun i u hu => ?_⟩⟩⟩
      have hj : j < len := by have := (List.getElem?_eq_some_iff.1 hp).1; omega
      obtain ⟨rfl, rfl⟩ : i = 0 ∧ .string p = u := by cases i with | zero => exact ⟨rfl, by simpa using hu⟩ | succ i => simp at hu
      have hc := hcell j (by omega)
      rw [List.getElem?_take, if_pos hj] at hp
      rw [List.getD_eq_getElem?_getD, hp] at hc
      show W.cell? (a.add (j * 1 + 0)) = _
      rw [Nat.mul_one]
      exact hc
    · intro s hs
      obtain ⟨s', hs', rfl⟩ := List.mem_map.1 hs
      have := b2 s' hs'
      show s'.data.toList.length ≤ _
      rw [Array.length_toList]
      exact Nat.le_trans (show s'.data.size ≤ _ from this) hb
theorem five {α : Type} {l : List α} (h : l.length = 5) : ∃ a b c d e, l = [a, b, c, d, e] :=
  match l, h with | [a, b, c, d, e], _ => ⟨a, b, c, d, e, rfl⟩
def Elem (W : World) (ad : Addr) (j : Nat) (y : DataW H) : Prop :=
  ∃ k t p a b, (∃ c, c.length = 5 ∧ kN.K W ⟨(k : Nat), bs t, p.map bs, Nodes.of a, Nodes.of b⟩ c ∧ ∀ i u, c[i]? = some u → W.cell? (ad.add (j * 5 + i)) = some u) ∧
    (Rows.uptoBulk y ≤ 1048576 → (Nodes.cons k t p a b .nil).sm) ∧ 1 + a.cnt + b.cnt ≤ Rows.uptoBulk y
theorem gather {ad : Addr} : ∀ (ys : List (DataW H)) (o : Nat), (∀ j y, ys[j]? = some y → Elem W ad (o + j) y) →
    ∃ l : Nodes, l.len = ys.length ∧ (∀ j x, l.of[j]? = some x → ∃ c, c.length = 5 ∧ kN.K W x c ∧ ∀ i u, c[i]? = some u → W.cell? (ad.add ((o + j) * 5 + i)) = some u) ∧
      (Rows.uptoBulkAll ys ≤ 1048576 → l.sm) ∧ l.cnt ≤ Rows.uptoBulkAll ys := by
  intro ys
  induction ys with
  | nil => exact fun o _ => ⟨.nil, rfl, fun j x h => by simp [Nodes.of] at h, fun _ => trivial, Nat.zero_le _⟩
  | cons y ys ih =>
    intro o h
    obtain ⟨r, h1, h2, h3, h4⟩ := ih (o + 1) (fun j z hz => by have := h (j + 1) z (by simpa using hz); rwa [show o + (j + 1) = o + 1 + j by omega] at this)
    obtain ⟨k, t, p, a, b, hc, hs, hn⟩ := h 0 y rfl
    refine ⟨.cons k t p a b r, by simp [Nodes.len, h1], ?_, ?_, ?_⟩
    · intro j x hx
      cases j with
      | zero =>
        have : (⟨(k : Nat), bs t, p.map bs, Nodes.of a, Nodes.of b⟩ : SN) = x := by simpa [Nodes.of] using hx
        subst this
        exact hc
      | succ j =>
        have := h2 j x (by simpa [Nodes.of] using hx)
        rwa [show o + 1 + j = o + (j + 1) by omega] at this
    · intro hb
      simp only [Rows.uptoBulkAll] at hb
      obtain ⟨g1, g2, g3, g4, g5, g6, g7, g8, _⟩ := hs (by omega)
      exact ⟨g1, g2, g3, g4, g5, g6, g7, g8, h3 (by omega)⟩
    · simp only [Rows.uptoBulkAll, Nodes.cnt]
      omega
theorem cnt_len (l : Nodes) : l.len ≤ l.cnt := by
  induction l with
  | nil => exact Nat.le_refl _
  | cons k t p a b r _ _ ih => simp only [Nodes.len, Nodes.cnt]; omega
theorem open_nodes : ∀ (fuel : Nat) (cs : List Value) (x : DataW H × List MemPlace), DataW.trod enc Tryz.prog W 0 (fun _ => true) true fuel 22 cs = some x →
    ∃ A c l, cs = [.slice A (Nodes.len l) c] ∧ Nodes.Rd W A c l ∧ (Rows.uptoBulk x.1 ≤ 1048576 → l.sm) ∧ l.cnt + 1 ≤ Rows.uptoBulk x.1 := by
  intro fuel
  induction fuel using Nat.strongRecOn with
  | ind fuel ih =>
  intro cs x h
  rcases DataW.trod_slice Tryz.underlying22 h with ⟨rfl, rfl⟩ | ⟨ad, len, cap, elems, rest, n, rfl, rfl, rfl, _, hl, hm, hlen, hel, _, _⟩
  · exact ⟨none, 0, .nil, rfl, ⟨⟨rfl, Nat.zero_le _, fun h => absurd h (by simp [Nodes.len])⟩, Nat.le_refl _⟩, fun _ => trivial, Nat.le_refl _⟩
  · have each : ∀ j y, (elems.map (·.1))[j]? = some y → Elem W ad (0 + j) y := by
      intro j y hy
      rw [List.getElem?_map] at hy
      obtain ⟨z, hz, rfl⟩ := Option.map_eq_some_iff.1 hy
      have hj : j < len := by have := (List.getElem?_eq_some_iff.1 hz).1; omega
      have hb := hel j hj
      rw [hz, cells_node, Option.bind_eq_some_iff] at hb
      obtain ⟨c, hc, hd⟩ := hb
      obtain ⟨_, hc5, hcell⟩ := World.cells?_some hc
      obtain ⟨xs, m, rfl, rfl, _, hxs, hf⟩ := DataW.trod_struct Tryz.underlying37 hd
      obtain ⟨y0, y1, y2, y3, y4, rfl⟩ := five hxs
      obtain ⟨v0, v1, v2, v3, v4, rfl⟩ := five hc5
      have f0 := hf 0 _ rfl
      have f1 := hf 1 _ rfl
      have f2 := hf 2 _ rfl
      have f3 := hf 3 _ rfl
      have f4 := hf 4 _ rfl
      simp only [List.getElem_toArray, List.getElem_cons_zero, List.getElem_cons_succ, cells_kind] at f0
      simp only [List.getElem_toArray, List.getElem_cons_zero, List.getElem_cons_succ, cells_strs] at f1
      simp only [List.getElem_toArray, List.getElem_cons_zero, List.getElem_cons_succ, cells_names] at f2
      simp only [List.getElem_toArray, List.getElem_cons_zero, List.getElem_cons_succ, cells_nodes] at f3 f4
      obtain ⟨k, e0, rfl, hk⟩ := DataW.trod_int under_kind f0
      obtain ⟨s, e1, rfl, hs⟩ := DataW.trod_string Tryz.underlying9 f1
      obtain ⟨A2, c2, p, e2, hp, lp, sp⟩ := open_names f2
      obtain ⟨A3, c3, a, e3, ha, sa, na⟩ := ih m (by omega) _ _ f3
      obtain ⟨A4, c4, b, e4, hb, sb, nb⟩ := ih m (by omega) _ _ f4
      simp only [List.drop, List.take, List.cons.injEq, and_true] at e0 e1 e2 e3 e4
      subst e0 e1 e2 e3 e4
      have hk' : 0 ≤ k ∧ k < 256 := by
        have h1 : IntKind.u8.min = 0 := by decide
        have h2 : IntKind.u8.max = 255 := by decide
        have := hk
        simp [Lit.wf, h1, h2] at this
        omega
      obtain ⟨k, rfl⟩ : ∃ q : Nat, k = q := ⟨k.toNat, by omega⟩
      refine ⟨k, s.data.toList, p, a, b, ⟨[.int .u8 k, .string s, .slice A2 p.length c2, .slice A3 (Nodes.len a) c3, .slice A4 (Nodes.len b) c4], rfl, ?_, fun i u hu => ?_⟩, ?_, ?_⟩
      · rw [bs_toList]
        have := k37_mk W (⟨(k : Nat), s, p.map bs, Nodes.of a, Nodes.of b⟩ : SN) (A2 := A2) (c2 := c2) (by simpa using hp.2) (by simpa using hp.1) (A3 := A3) (c3 := c3) (by simpa [Nodes.of_len] using ha.2) (by simpa [Nodes.of_len] using ha.1) (A4 := A4) (c4 := c4) (by simpa [Nodes.of_len] using hb.2) (by simpa [Nodes.of_len] using hb.1)
        simpa [Nodes.of_len] using this
      · have hi : i < 5 := by have := (List.getElem?_eq_some_iff.1 hu).1; simpa using this
        rw [Nat.zero_add, ← hu, ← hcell i hi, Go.Deep.add_add]
      · intro hbk
        simp only [List.map_cons, List.map_nil, Rows.uptoBulk, Rows.uptoBulkAll] at hbk
        refine ⟨by omega, by omega, by omega, fun q hq => ?_, ?_, ?_, sa (by omega), sb (by omega), trivial⟩
        · have := sp q hq; omega
        · have := cnt_len a; omega
        · have := cnt_len b; omega
      · simp only [List.map_cons, List.map_nil, Rows.uptoBulk, Rows.uptoBulkAll]
        omega
    obtain ⟨l, h1, h2, h3, h4⟩ := gather (elems.map (·.1)) 0 each
    have h1' : l.len = len := by rw [h1, List.length_map, hlen]
    refine ⟨some ad, cap, l, by rw [h1'], ⟨⟨Nodes.of_len l, by rw [h1']; unfold maxLen at hm; omega, fun _ => ⟨ad, rfl, fun j p hp => ?_⟩⟩, by omega⟩, ?_, ?_⟩
    · have := h2 j p hp
      rwa [Nat.zero_add] at this
    · intro hb
      simp only [Rows.uptoBulk] at hb
      exact h3 (by omega)
    · simp only [Rows.uptoBulk]
      omega
end
end Go.Proofs.YtniibpndgcndbaaGreatDoor.Tpl
namespace Go.Proofs.YtniibpndgcndbaaGreatDoor.Tpl
open Go.RowKit
theorem gErr : Tryz.prog.globalNamed "bellman/tree.errPair" = some 1 := by kernel_rfl
theorem tErr : (Tryz.prog.globals[1]?).map (·.type) = some 83 := by kernel_rfl
theorem starErr : "*" ++ "errors.errorString" = "*errors.errorString" := by decide
theorem rowErr (u : TypeId) (h : Tryz.prog.typeName? 3 u = some "*errors.errorString") : u = 266 :=
  typeName_ptr_named (nm := "errors.errorString") (by rw [starErr]; kernel_rfl) (by kernel_rfl) (by decide) u (by rw [starErr]; exact h)
theorem glob_of_sentinel {W : World} {r : List (String × DataW Unit)} (hW : W.ShapedOpen Tryz.prog) (h : laidMet Tryz.prog (("bellman/tree.errPair", Rows.laid_bellman_tree_errPair) :: r) W) : Glob W := by
  refine ⟨cell_of_shapedOpen_int (g := 3) (zero := #[.int .i64 0]) (t := 3) hW (of_decide_eq_true (by kernel_rfl)) (by kernel_rfl) rfl (by kernel_rfl) (by kernel_rfl) Tryz.underlying3, ?_⟩
  obtain ⟨a, s, hv, _⟩ := laid_sentinel (n := "bellman/tree.errPair") (nm := "*errors.errorString") h gErr tErr Tryz.underlying83 rowErr Tryz.underlying266 Tryz.underlying284 rfl rfl Tryz.underlying9 (by kernel_rfl) (by kernel_rfl)
  exact ⟨a, by simpa using World.var?_cell gErr hv 0⟩
def vetLaid : List (String × DataW Unit) := [("unicode/utf8.acceptRanges", Rows.laid_unicode_utf8_acceptRanges), ("bellman/tree.errPair", Rows.laid_bellman_tree_errPair), ("unicode/utf8.first", Rows.laid_unicode_utf8_first)]
theorem glob_of_laid {W : World} (hW : W.ShapedOpen Tryz.prog) (h : laidMetH Tryz.prog vetLaid W) : Glob W := by
  rw [MakeChecks.laidMetH_plain _ _ _ (by kernel_rfl)] at h
  exact glob_of_sentinel hW (laidMet.tail h)
end Go.Proofs.YtniibpndgcndbaaGreatDoor.Tpl
