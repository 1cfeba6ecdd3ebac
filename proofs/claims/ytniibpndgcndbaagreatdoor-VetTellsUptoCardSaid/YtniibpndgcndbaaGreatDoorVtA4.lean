/- Part 4 of the proof (texts of this claim, merged in build order; what the claim does not need has been left out). -/
import Derived.Test.YtniibpndgcndbaaGreatDoorVtA3
import Derived.LaidHandle
import Derived.LaidMore
import Derived.OpenShut
import Derived.Shelf.Vars
import Derived.SliceStrings
import Derived.Stop.LaidErr
import Derived.Test.YtniibpndgcndbaaGreatDoorRows
namespace Go.Proofs.YtniibpndgcndbaaGreatDoor.Tpl
open Go.RowKit Go.Proofs Go.Extern.Stop Go.Stop Go.Extern Go.Proofs.YtniibpndgcndbaaGreatDoor.PB Go.Proofs.YtniibpndgcndbaaGreatDoor.Short Go.Proofs.YtniibpndgcndbaaGreatDoorW.PrintWords Go.Proofs.YtniibpndgcndbaaGreatDoorW.PrintLast Go.Proofs.YtniibpndgcndbaaGreatDoorW.PrintMore Nodes
abbrev errv (a : Addr) : Value := .iface 266 (.pointer (some a))
theorem isTypeOf (v : Value) (w : World) : (Extern.ReflectliteType.typeOf #[.iface 266 v]).run Tryz.prog w = .ok (.iface 207 (.agg #[.pointer (some ⟨9, 266, none⟩)])) w := by kernel_rfl
theorem isComparable (w : World) : (callFunc 241 #[.agg #[.pointer (some ⟨9, 266, none⟩)]]).run Tryz.prog w = .ok (.value (.bool true)) w := by
  have h32 := @run_callFunc_extern Tryz.prog 241 _ (Extern.ReflectliteType.method fun t => do Rtype.noPackHeld "Comparable" t; pure (.bool (← typeInfo t).comparable)) Tryz.func241 (by kernel_rfl) (by kernel_rfl) (by kernel_rfl) (by kernel_rfl)
  have e : ((Extern.ReflectliteType.method fun t => do Rtype.noPackHeld "Comparable" t; pure (.bool (← typeInfo t).comparable)) #[.agg #[.pointer (some ⟨9, 266, none⟩)]]).run Tryz.prog w = .ok (.bool true) w := by kernel_rfl
  rw [h32, e]; rfl
theorem isMethodComparable (v : Value) (w : World) : (Go.method 395 207 v "Comparable").run Tryz.prog w = .ok (241, v) w := by kernel_rfl
theorem isComp : (Tryz.prog.info? 266).map (·.comparable) = some true := by kernel_rfl
theorem isSize : (Tryz.prog.info? 284).map (·.size) = some 1 := by kernel_rfl
set_option maxRecDepth 100000 in
/-- errors.Is(x, x), x a pointer to an errors.errorString. -/
theorem is_same (a : Addr) (w : World) :
    Calls Tryz.prog 80 #[errv a, errv a] w fun e w' => e = .returned (.bool true) ∧ w' = w := by
  unfold errv
  obtain ⟨i, hi, hcmp⟩ := Option.map_eq_some_iff.1 isComp
  obtain ⟨j, hj, hjs⟩ := Option.map_eq_some_iff.1 isSize
  have h8 := @run_callFunc_extern Tryz.prog 118 _ Extern.ReflectliteType.typeOf Tryz.func118 (by kernel_rfl) (by kernel_rfl) (by kernel_rfl) (by kernel_rfl)
  have tT := isTypeOf
  have cT := isComparable
  have mR := isMethodComparable
  have heq := run_eql_iface_ptr_same (P := Tryz.prog) w a Tryz.underlying83 Tryz.underlying266 hi hcmp hj
  go_enter Tryz.func80, Tryz.ntmps80
  go_wp2
  refine wp_loop_rounds 1 ?_
  rw [rounds_succ]
  go_wp2
  go_ret
  exact ⟨rfl, rfl⟩
set_option maxRecDepth 100000 in
/-- errors.Is(nil, x). -/
theorem is_nil (b : Addr) (w : World) :
    Calls Tryz.prog 80 #[.nilIface, errv b] w fun e w' => e = .returned (.bool false) ∧ w' = w := by
  unfold errv
  have hn := run_eql_iface_nil_left (P := Tryz.prog) w 266 (.pointer (some b)) Tryz.underlying83
  go_enter Tryz.func80, Tryz.ntmps80
  go_wp2
  go_ret
  exact ⟨rfl, rfl⟩
end Go.Proofs.YtniibpndgcndbaaGreatDoor.Tpl
namespace Go.Proofs.YtniibpndgcndbaaGreatDoor.Tpl
open Go.RowKit Go.Proofs Go.Proofs.YtniibpndgcndbaaGreatDoor.PB Go.Proofs.YtniibpndgcndbaaGreatDoor.Short Go.Proofs.YtniibpndgcndbaaGreatDoorW.PrintWords Go.Proofs.YtniibpndgcndbaaGreatDoorW.PrintLast Go.Proofs.YtniibpndgcndbaaGreatDoorW.PrintMore Nodes
attribute [local go_sem ↓] Go.wp_at_zero Go.wp_at_succ
def GE (w : World) (a : Addr) : Prop := w.cell? ⟨1, 0, none⟩ = some (errv a)
theorem GE.below {w w1 : World} {a : Addr} (h : GE w a) (hb : Below w.heap.size w w1) : GE w1 a := pw_cell_below hb h
def NRet (o : Option (Nodes × List Tok)) (a : Addr) (w0 W : World) (g : Nat) (e : Ending) (w' : World) : Prop :=
  KeepP (fun k => k = g) W w' ∧
  match o with
  | none => e = .returned (.tuple #[.slice none 0 0, errv a])
  | some (nd, r) => ∃ A c, e = .returned (.tuple #[.slice A nd.len c, .nilIface]) ∧ kN.R 37 w' W.heap.size (fun k => W.heap.size ≤ k) (.slice A nd.len c) nd.of ∧ PS w0 w' g r
def WRet (o : Option (Nodes × Nodes × List Tok)) (a : Addr) (w0 W : World) (g gn k : Nat) (t : S) (vp : Value) (e : Ending) (w' : World) : Prop :=
  KeepP (fun q => q = g ∨ q = gn) W w' ∧
  match o with
  | none => e = .returned (errv a)
  | some (x, y, r) => e = .returned .nilIface ∧ ∃ A3 c3 A4 c4, w'.heap[gn]? = some (.cells #[.int .u8 k, .string (bs t), vp, .slice A3 x.len c3, .slice A4 y.len c4] 37 (0, 0)) ∧
      kN.R 37 w' W.heap.size (fun k => W.heap.size ≤ k) (.slice A3 x.len c3) x.of ∧ kN.R 37 w' W.heap.size (fun k => W.heap.size ≤ k) (.slice A4 y.len c4) y.of ∧ PS w0 w' g r
def NAll (a : Addr) (w0 : World) (m : Nat) : Prop := ∀ (l : List Tok) (W : World) (g : Nat), l.length ≤ m → (∀ x, x ∈ l → x.sm) → PS w0 W g l → Calls Tryz.prog 144 #[.pointer (some ⟨g, 0, none⟩)] W (NRet (parse l) a w0 W g)
theorem PS.keep {w0 W W1 : World} {g : Nat} {l : List Tok} (h : PS w0 W g l) {ok : Nat → Prop} (hk : KeepP ok W W1) (hg : ¬ ok g) (hok : ∀ k, ok k → w0.heap.size ≤ k) : PS w0 W1 g l := by
  obtain ⟨A, c, h1, h2, h3, h4⟩ := h
  exact ⟨A, c, hk.blkOf h1 hg, h2, h3, h4.trans (hk.below hok h4.size)⟩
theorem PS.set {w0 W : World} {g gn j : Nat} {l : List Tok} (h : PS w0 W g l) (hg : g ≠ gn) (hb : w0.heap.size ≤ gn) (u : Value) : PS w0 (W.setCell ⟨gn, j, none⟩ u) g l := by
  obtain ⟨A, c, h1, h2, h3, h4⟩ := h
  exact ⟨A, c, blk_far h1 (p := ⟨gn, j, none⟩) hg u, h2, h3, below_set h4 hb⟩
theorem PS.below {w0 W : World} {g : Nat} {l : List Tok} (h : PS w0 W g l) : Below w0.heap.size w0 W := by obtain ⟨_, _, _, _, _, h4⟩ := h; exact h4
theorem PS.ge {w0 W : World} {g : Nat} {l : List Tok} (h : PS w0 W g l) : w0.heap.size ≤ g := by obtain ⟨_, _, _, h2, _⟩ := h; exact h2
theorem PS.lt {w0 W : World} {g : Nat} {l : List Tok} (h : PS w0 W g l) : g < W.heap.size := by obtain ⟨_, _, h1, _⟩ := h; exact blk_lt h1
theorem RN.keep {W W1 : World} {base : Nat} {v : Value} {l : List SN} {ok ok2 : Nat → Prop} (h : kN.R 37 W base ok v l) (hk : KeepP ok2 W W1) (hok : ∀ k, ok k → ¬ ok2 k) : kN.R 37 W1 base ok v l := Kd.R_step h (fun k ho hlt => hk.blk k hlt (hok k ho))
set_option maxHeartbeats 4000000 in
set_option maxRecDepth 100000 in
theorem within_any (a : Addr) (w0 : World) (hE : GE w0 a) (m : Nat) (hN : NAll a w0 m) (l : List Tok) (W : World) (g gn k : Nat) (t : S) (vp : Value) (hm : l.length ≤ m) (hmx : m ≤ 1048576) (hs : ∀ x, x ∈ l → x.sm) (hP : PS w0 W g l) (hne : g ≠ gn) (hgn : w0.heap.size ≤ gn) (hb : W.heap[gn]? = some (.cells #[.int .u8 k, .string (bs t), vp, .slice none 0 0, .slice none 0 0] 37 (0, 0))) :
    Calls Tryz.prog 176 #[.pointer (some ⟨g, 0, none⟩), .pointer (some ⟨gn, 0, none⟩)] W (WRet (within k l) a w0 W g gn k t vp) := by
  obtain ⟨o, ho⟩ : ∃ o, within k l = o := ⟨_, rfl⟩
  rw [ho]
  have HO := Aside0.mk ho
  have h1 := hN l W g hm hs hP
  have HE := Aside0.mk hE
  have HB := Aside0.mk hb
  have HN := Aside0.mk hN
  have HS := Aside0.mk hs
  have hgW : gn < W.heap.size := blk_lt hb
  have hgP : g < W.heap.size := hP.lt
  have HP := Aside0.mk hP
  have hgn0 := hP.ge
  clear ho hE hb hP hs hN
  unfold within withP at HO
  cases hp : parse l with
  | none =>
    rw [hp] at h1 HO
    obtain rfl : o = none := HO.out.symm
    clear hp
    go_enter Tryz.func176, Tryz.ntmps176
    go_wp2_with fail
    refine h1.mono ?_
    rintro e W1 ⟨hk, rfl⟩
    have BK := Aside0.mk (hk.blkOf HB.out (show ¬ gn = g from fun e => hne e.symm))
    have HK := Aside0.mk hk
    clear hk h1
    obtain ⟨z0, z1, z2, z3, z4, f0, f1, f2, f3, f4⟩ := cells_5 BK.out
    go_wp2
    go_ret
    exact ⟨KeepP.set (HK.out.mono fun _ h => .inl h) (.inl (.inr rfl)) _, rfl⟩
  | some x =>
    obtain ⟨x, r1⟩ := x
    rw [hp] at h1 HO
    have hl1 := parse_len hp
    have hs1 := (parse_sm hp HS.out (Nat.le_trans hm hmx)).2
    clear hp
    have HO1 : Aside0 ((if k = 3 ∧ headK r1 = 4 then (match parse r1.tail with | none => none | some (b, r2) => if headK r2 = 6 then some (x, b, r2.tail) else none) else if headK r1 = 6 then some (x, Nodes.nil, r1.tail) else none) = o) := ⟨HO.out⟩
    clear HO
    have HS1 := Aside0.mk hs1
    clear hs1
    go_enter Tryz.func176, Tryz.ntmps176
    go_wp2_with fail
    refine h1.mono ?_
    rintro e W1 ⟨hk, A3, c3, rfl, hR1, hP1⟩
    have BK := Aside0.mk (hk.blkOf HB.out (show ¬ gn = g from fun e => hne e.symm))
    have HK2 := Aside0.mk (KeepP.set (hk.mono (ok' := fun q => q = g ∨ q = gn) fun _ h => .inl h) (p := ⟨gn, 3, none⟩) (.inl (.inr rfl)) (.slice A3 x.len c3))
    have HP2 := Aside0.mk (hP1.set (j := 3) hne hgn (.slice A3 x.len c3))
    have HR2 := Aside0.mk (Kd.R_far hR1 (p := ⟨gn, 3, none⟩) (fun k hk e => by simp only at e; omega) (.slice A3 x.len c3))
    have BK2 := Aside0.mk (blk_put BK.out 3 (.slice A3 x.len c3) rfl)
    clear hk h1 hR1 hP1
    obtain ⟨z0, z1, z2, z3, z4, f0, f1, f2, f3, f4⟩ := cells_5 BK.out
    go_upto_region 5 with (fail)
    clear z0 z1 z2 z3 z4 f0 f1 f2 f3 f4 BK HB HP
    generalize W1.setCell ⟨gn, 3, none⟩ (.slice A3 x.len c3) = W2 at *
    obtain ⟨z0, z1, z2, z3, z4, f0, f1, f2, f3, f4⟩ := cells_5 BK2.out
    have hi4 := is_any w0 W2 g r1 4 (by decide) HP2.out
    by_cases c34 : k = 3 ∧ headK r1 = 4
    · obtain ⟨rfl, h4⟩ := c34
      cases hr1 : r1 with
      | nil => rw [hr1] at h4; simp [headK] at h4
      | cons t1 q1 =>
        subst hr1
        have h4b : (headK (t1 :: q1) == 4) = true := by rw [beq_iff_eq]; exact h4
        have HO2 := HO1.out
        rw [if_pos ⟨rfl, h4⟩] at HO2
        simp only [List.tail_cons] at HO2
        rw [h4b] at hi4
        have htk := take_any w0 W2 g t1 q1 HP2.out
        have hlq : q1.length ≤ m := by simp only [List.length_cons] at hl1; omega
        have hsq : ∀ x, x ∈ q1 → x.sm := fun x hx => HS1.out x (by simp [hx])
        have HO3 := Aside0.mk HO2
        clear h4 h4b HO1 HO2
        go_wp2_with fail
        refine hi4.mono ?_
        rintro e w' ⟨rfl, rfl⟩
        go_wp2_with fail
        refine htk.mono ?_
        rintro e W3 ⟨A9, c9, rfl, _, _, hP3, hK3⟩
        have HK3 := Aside0.mk (HK2.out.trans (hK3.mono (ok' := fun q => q = g ∨ q = gn) fun _ h => .inl h))
        have BK3 := Aside0.mk (hK3.blkOf BK2.out (show ¬ gn = g from fun e => hne e.symm))
        have HR3 := Aside0.mk (RN.keep HR2.out hK3 (fun k hk e => by omega))
        have h2 := HN.out q1 W3 g hlq hsq hP3
        have hs3 := HK3.out.size
        clear hP3 hK3 hi4 htk z0 z1 z2 z3 z4 f0 f1 f2 f3 f4
        cases hp2 : parse q1 with
        | none =>
          rw [hp2] at h2 HO3
          obtain rfl : o = none := HO3.out.symm
          clear hp2
          go_wp2_with fail
          refine h2.mono ?_
          rintro e W4 ⟨hk, rfl⟩
          have BK4 := Aside0.mk (hk.blkOf BK3.out (show ¬ gn = g from fun e => hne e.symm))
          have HK4 := Aside0.mk (HK3.out.trans (hk.mono (ok' := fun q => q = g ∨ q = gn) fun _ h => .inl h))
          clear hk h2
          obtain ⟨z0, z1, z2, z3, z4, f0, f1, f2, f3, f4⟩ := cells_5 BK4.out
          go_wp2
          go_ret
          exact ⟨KeepP.set HK4.out (.inl (.inr rfl)) _, rfl⟩
        | some y =>
          obtain ⟨y, r2⟩ := y
          rw [hp2] at h2 HO3
          simp only at HO3
          clear hp2
          go_wp2_with fail
          refine h2.mono ?_
          rintro e W4 ⟨hk, A4, c4, rfl, hR4, hP4⟩
          have BK4 := Aside0.mk (hk.blkOf BK3.out (show ¬ gn = g from fun e => hne e.symm))
          have HK5 := Aside0.mk (KeepP.set (HK3.out.trans (hk.mono (ok' := fun q => q = g ∨ q = gn) fun _ h => .inl h)) (p := ⟨gn, 4, none⟩) (.inl (.inr rfl)) (.slice A4 y.len c4))
          have HP5 := Aside0.mk (hP4.set (j := 4) hne hgn (.slice A4 y.len c4))
          have HR5 := Aside0.mk (Kd.R_far (RN.keep HR3.out hk (fun k hk e => by omega)) (p := ⟨gn, 4, none⟩) (fun k hk e => by simp only at e; omega) (.slice A4 y.len c4))
          have HY5 := Aside0.mk (Kd.R_far (Kd.R_mono (Kd.R_lower hR4 hs3) (fun k hk => Nat.le_trans hs3 hk)) (p := ⟨gn, 4, none⟩) (fun k hk e => by simp only at e; omega) (.slice A4 y.len c4))
          have BK5 := Aside0.mk (blk_put BK4.out 4 (.slice A4 y.len c4) rfl)
          clear hk h2 hR4 hP4
          obtain ⟨z0, z1, z2, z3, z4, f0, f1, f2, f3, f4⟩ := cells_5 BK4.out
          go_upto_region 10 with (fail)
          clear z0 z1 z2 z3 z4 f0 f1 f2 f3 f4 BK4
          generalize W4.setCell ⟨gn, 4, none⟩ (.slice A4 y.len c4) = W5 at *
          have hge := HE.out.below HP5.out.below
          unfold GE at hge
          have hi6 := is_any w0 W5 g r2 6 (by decide) HP5.out
          cases h6 : (headK r2 == 6) with
          | false =>
            obtain rfl : o = none := by rw [← HO3.out, if_neg (by simpa using h6)]
            rw [h6] at hi6
            clear h6
            go_wp2_with fail
            refine hi6.mono ?_
            rintro e w' ⟨rfl, rfl⟩
            go_wp2
            go_ret
            exact ⟨HK5.out, rfl⟩
          | true =>
            cases hr2 : r2 with
            | nil => rw [hr2] at h6; simp [headK] at h6
            | cons t2 r3 =>
              obtain rfl : o = some (x, y, r3) := by rw [← HO3.out, if_pos (by simpa using h6), hr2]; rfl
              rw [h6] at hi6
              have htk := take_any w0 W5 g t2 r3 (hr2 ▸ HP5.out)
              clear h6 hr2
              go_wp2_with fail
              refine hi6.mono ?_
              rintro e w' ⟨rfl, rfl⟩
              go_wp2_with fail
              refine htk.mono ?_
              rintro e W9 ⟨A9, c9, rfl, _, _, hP9, hK9⟩
              have HP9 := Aside0.mk hP9
              have HK9 := Aside0.mk hK9
              clear hP9 hK9 hi6 htk
              go_wp2
              go_ret
              exact ⟨HK5.out.trans (HK9.out.mono fun _ h => .inl h), rfl, _, _, _, _, HK9.out.blkOf BK5.out (show ¬ gn = g from fun e => hne e.symm), RN.keep HR5.out HK9.out (fun k hk e => by omega), RN.keep HY5.out HK9.out (fun k hk e => by omega), HP9.out⟩
    · have HO2 := HO1.out
      rw [if_neg c34] at HO2
      have HO3 := Aside0.mk HO2
      clear HO1 HO2
      have hk3 : ((k : Int) == 3) = false ∨ (k = 3 ∧ (headK r1 == 4) = false) := by
        by_cases hk : k = 3
        · right; exact ⟨hk, by rw [beq_eq_false_iff_ne]; exact fun h => c34 ⟨hk, h⟩⟩
        · left; rw [beq_eq_false_iff_ne]; omega
      clear c34
      rcases hk3 with hk3 | ⟨rfl, hq4⟩
      · go_upto_region 10 with (fail)
        have hge := HE.out.below HP2.out.below
        unfold GE at hge
        have hi6 := is_any w0 W2 g r1 6 (by decide) HP2.out
        cases h6 : (headK r1 == 6) with
        | false =>
          obtain rfl : o = none := by rw [← HO3.out, if_neg (by simpa using h6)]
          rw [h6] at hi6
          clear h6
          go_wp2_with fail
          refine hi6.mono ?_
          rintro e w' ⟨rfl, rfl⟩
          go_wp2
          go_ret
          exact ⟨HK2.out, rfl⟩
        | true =>
          cases hr2 : r1 with
          | nil => rw [hr2] at h6; simp [headK] at h6
          | cons t2 r3 =>
            obtain rfl : o = some (x, Nodes.nil, r3) := by rw [← HO3.out, if_pos (by simpa using h6), hr2]; rfl
            rw [h6] at hi6
            have htk := take_any w0 W2 g t2 r3 (hr2 ▸ HP2.out)
            clear h6 hr2
            go_wp2_with fail
            refine hi6.mono ?_
            rintro e w' ⟨rfl, rfl⟩
            go_wp2_with fail
            refine htk.mono ?_
            rintro e W9 ⟨A9, c9, rfl, _, _, hP9, hK9⟩
            have HP9 := Aside0.mk hP9
            have HK9 := Aside0.mk hK9
            clear hP9 hK9 hi6 htk
            go_wp2
            go_ret
            exact ⟨HK2.out.trans (HK9.out.mono fun _ h => .inl h), rfl, _, _, _, _, HK9.out.blkOf BK2.out (show ¬ gn = g from fun e => hne e.symm), RN.keep HR2.out HK9.out (fun k hk e => by omega), Kd.R_nil _ _ _ _ _, HP9.out⟩
      · rw [hq4] at hi4
        clear hq4
        go_upto_region 10 with (go_at_call 174; refine hi4.mono ?_; rintro e w' ⟨rfl, rfl⟩)
        have hge := HE.out.below HP2.out.below
        unfold GE at hge
        have hi6 := is_any w0 W2 g r1 6 (by decide) HP2.out
        cases h6 : (headK r1 == 6) with
        | false =>
          obtain rfl : o = none := by rw [← HO3.out, if_neg (by simpa using h6)]
          rw [h6] at hi6
          clear h6
          go_wp2_with fail
          refine hi6.mono ?_
          rintro e w' ⟨rfl, rfl⟩
          go_wp2
          go_ret
          exact ⟨HK2.out, rfl⟩
        | true =>
          cases hr2 : r1 with
          | nil => rw [hr2] at h6; simp [headK] at h6
          | cons t2 r3 =>
            obtain rfl : o = some (x, Nodes.nil, r3) := by rw [← HO3.out, if_pos (by simpa using h6), hr2]; rfl
            rw [h6] at hi6
            have htk := take_any w0 W2 g t2 r3 (hr2 ▸ HP2.out)
            clear h6 hr2
            go_wp2_with fail
            refine hi6.mono ?_
            rintro e w' ⟨rfl, rfl⟩
            go_wp2_with fail
            refine htk.mono ?_
            rintro e W9 ⟨A9, c9, rfl, _, _, hP9, hK9⟩
            have HP9 := Aside0.mk hP9
            have HK9 := Aside0.mk hK9
            clear hP9 hK9 hi6 htk
            go_wp2
            go_ret
            exact ⟨HK2.out.trans (HK9.out.mono fun _ h => .inl h), rfl, _, _, _, _, HK9.out.blkOf BK2.out (show ¬ gn = g from fun e => hne e.symm), RN.keep HR2.out HK9.out (fun k hk e => by omega), Kd.R_nil _ _ _ _ _, HP9.out⟩
end Go.Proofs.YtniibpndgcndbaaGreatDoor.Tpl
namespace Go.Proofs.YtniibpndgcndbaaGreatDoor.Tpl
open Go.RowKit Go.Proofs Go.Proofs.YtniibpndgcndbaaGreatDoor.PB Go.Proofs.YtniibpndgcndbaaGreatDoor.Short Go.Proofs.YtniibpndgcndbaaGreatDoorW.PrintWords Go.Proofs.YtniibpndgcndbaaGreatDoorW.PrintLast Go.Proofs.YtniibpndgcndbaaGreatDoorW.PrintMore Nodes
attribute [local go_sem ↓] Go.wp_at_zero Go.wp_at_succ
theorem KeepP.trans2 {ok ok2 : Nat → Prop} {w w1 w2 : World} (h : KeepP ok w w1) (k : KeepP ok2 w1 w2) (hk : ∀ i, ok2 i → ok i ∨ w.heap.size ≤ i) : KeepP ok w w2 :=
  ⟨k.os.trans h.os, k.tape.trans h.tape, k.output.trans h.output, Nat.le_trans h.size k.size, fun i hi hn => (k.blk i (Nat.lt_of_lt_of_le hi h.size) (fun c => (hk i c).elim hn (fun h2 => by omega))).trans (h.blk i hi hn)⟩
theorem info_node : (Tryz.prog.info? 37).map (fun i => (i.zero, i.size, i.bytes)) = some (some (.agg #[.int .u8 0, .string ⟨#[]⟩, .slice none 0 0, .slice none 0 0, .slice none 0 0]), 5, 96) := by kernel_rfl
theorem app_len (x y : Nodes) : (x.app y).len = x.len + y.len := by
  induction x with
  | nil => simp [app, len]
  | cons k t p a b r _ _ ih => simp only [app, len, ih]; omega
theorem app_of (x y : Nodes) : (x.app y).of = x.of ++ y.of := by
  induction x with
  | nil => simp [app, of]
  | cons k t p a b r _ _ ih => simp [app, of, ih]
theorem app_nil (x : Nodes) : x.app nil = x := by
  induction x with
  | nil => rfl
  | cons k t p a b r _ _ ih => rw [app, ih]
theorem app_app (x y z : Nodes) : (x.app y).app z = x.app (y.app z) := by
  induction x with
  | nil => rfl
  | cons k t p a b r _ _ ih => rw [app, app, app, ih]
theorem app_cnt (x y : Nodes) : (x.app y).cnt = x.cnt + y.cnt := by
  induction x with
  | nil => simp [app, cnt]
  | cons k t p a b r _ _ ih => simp only [app, cnt, ih]; omega
set_option maxHeartbeats 4000000 in
set_option maxRecDepth 100000 in
theorem nodes_step (a : Addr) (w0 : World) (hE : GE w0 a) (m : Nat) (hmx : m ≤ 1048576) (hN : NAll a w0 m) (l : List Tok) (W : World) (g : Nat) (hm : l.length ≤ m + 1) (hs : ∀ x, x ∈ l → x.sm) (hP : PS w0 W g l) :
    Calls Tryz.prog 144 #[.pointer (some ⟨g, 0, none⟩)] W (NRet (parse l) a w0 W g) := by
  obtain ⟨o, ho⟩ : ∃ o, parse l = o := ⟨_, rfl⟩
  rw [ho]
  have HO := Aside0.mk ho
  have HE := Aside0.mk hE
  have HN := Aside0.mk hN
  have HS := Aside0.mk hs
  have hgW : g < W.heap.size := hP.lt
  have hg0 := hP.ge
  have HP := Aside0.mk hP
  clear ho hE hN hs hP
  go_enter Tryz.func144, Tryz.ntmps144
  go_wp2
  go_loopg [4] l.length (fun kq v4 wr => ∃ (r : List Tok) (acc : Nodes) (Aa : Option Addr) (ca : Nat), v4 = .slice Aa acc.len ca ∧ r.length = kq ∧ Aside0 (o = (parse r).map (fun z => (acc.app z.1, z.2))) ∧ Aside0 (acc.cnt + r.length ≤ l.length) ∧ Aside0 (∀ x, x ∈ r → x.sm) ∧ Aside0 (kN.R 37 wr W.heap.size (fun k => W.heap.size ≤ k) (.slice Aa acc.len ca) acc.of) ∧ Aside0 (PS w0 wr g r) ∧ Aside0 (KeepP (fun k => k = g) W wr))
  case atStart => exact ⟨l, .nil, none, 0, rfl, rfl, ⟨by rw [HO.out]; cases o <;> rfl⟩, ⟨by simp [cnt]⟩, HS, ⟨Kd.R_nil _ _ _ _ _⟩, HP, ⟨KeepP.refl _⟩⟩
  case round =>
    clear HP HO HS
    obtain ⟨r, acc, Aa, ca, rfl, rfl, HO, HC, HS, HR, HP, HK⟩ := hrel
    have hi4 := is_any w0 wr g r 4 (by decide) HP.out
    have hi6 := is_any w0 wr g r 6 (by decide) HP.out
    obtain ⟨Ap, cp, hgp, _, _, _⟩ := HP.out
    have z0 : wr.cell? ⟨g, 0, none⟩ = some (.slice Ap r.length cp) := (blk_cell hgp 0).trans rfl
    have f0 := blk_frozen hgp 0
    clear hgp
    cases hr : r with
    | nil =>
      have ho : o = some (acc, []) := by rw [HO.out, hr, parse_nil]; simp [app_nil]
      subst ho
      subst hr
      clear hi4 hi6
      simp only [List.length_nil] at z0 
      go_wp2
      go_ret2
      exact ⟨HK.out, _, _, rfl, HR.out, HP.out⟩
    | cons t q =>
      subst hr
      have hd : headK (t :: q) = t.k := rfl
      rw [hd] at hi4 hi6
      have hln : 0 < (t :: q).length := by simp
      have hli : (0 : Int) < (((t :: q).length : Nat) : Int) := by simp
      have hO := HO.out
      rw [parse_cons] at hO
      by_cases hst : stops t.k = true
      · rw [if_pos hst] at hO
        have ho : o = some (acc, t :: q) := by rw [hO]; simp [app_nil]
        subst ho
        have hkk : (t.k == 4) = true ∨ ((t.k == 4) = false ∧ (t.k == 6) = true) := by
          unfold stops at hst
          cases h4 : (t.k == 4)
          · rw [h4] at hst; right; exact ⟨rfl, by simpa using hst⟩
          · left; rfl
        clear hO hst
        obtain ⟨n, hn⟩ : ∃ n, (t :: q).length = n := ⟨_, rfl⟩
        rw [hn] at z0 hln hli
        clear hn
        rcases hkk with h4 | ⟨h4, h6⟩
        · rw [h4] at hi4
          clear h4 hi6
          go_wp2_with fail
          refine hi4.mono ?_
          rintro e w' ⟨rfl, rfl⟩
          go_wp2
          go_ret2
          exact ⟨HK.out, _, _, rfl, HR.out, HP.out⟩
        · rw [h4] at hi4
          rw [h6] at hi6
          clear h4 h6
          go_wp2_with fail
          refine hi4.mono ?_
          rintro e w' ⟨rfl, rfl⟩
          go_wp2_with fail
          refine hi6.mono ?_
          rintro e w' ⟨rfl, rfl⟩
          go_wp2
          go_ret2
          exact ⟨HK.out, _, _, rfl, HR.out, HP.out⟩
      · rw [if_neg hst] at hO
        have h46 : (t.k == 4) = false ∧ (t.k == 6) = false := by
          unfold stops at hst
          cases h4 : (t.k == 4) <;> cases h6 : (t.k == 6) <;> simp [h4, h6] at hst ⊢
        rw [h46.1] at hi4
        rw [h46.2] at hi6
        have htk := take_any w0 wr g t q HP.out
        obtain ⟨s1, s2, s3, s4⟩ := HS.out t (by simp)
        have hsq : ∀ x, x ∈ q → x.sm := fun x hx => HS.out x (by simp [hx])
        have hcq := HC.out
        simp only [List.length_cons] at hcq
        obtain ⟨n, hn⟩ : ∃ n, (t :: q).length = n := ⟨_, rfl⟩
        rw [hn] at z0 hln hli
        obtain ⟨k, s, p⟩ := t
        simp only at *
        have HO2 := Aside0.mk hO
        clear hO HO hst h46 HS HC HP hd
        have hqn : n = q.length + 1 := by rw [← hn]; simp
        have HQN := Aside0.mk hqn
        have HSQ := Aside0.mk hsq
        have HS4 := Aside0.mk s4
        clear hn hqn hsq s4
        go_wp2_with fail
        refine hi4.mono ?_
        rintro e w' ⟨rfl, rfl⟩
        go_wp2_with fail
        refine hi6.mono ?_
        rintro e w' ⟨rfl, rfl⟩
        go_wp2_with fail
        refine htk.mono ?_
        rintro e W3 ⟨A2, c2, rfl, i2, l2, hP3, hK3⟩
        have HI2 := Aside0.mk i2
        have HP4 : Aside0 (PS w0 (W3.alloc (.cells #[.int .u8 k, .string (bs s), .slice A2 p.length c2] 101)) g q) := ⟨hP3.keep (KeepP.of_below (ok := fun _ => False) (below_alloc (Below.refl _ _) _)) (fun h => h) (fun _ h => h.elim)⟩
        have HR4 := Aside0.mk (Kd.R_alloc (RN.keep HR.out hK3 (fun k hk e => by omega)) (.cells #[.int .u8 k, .string (bs s), .slice A2 p.length c2] 101))
        have HK4 := Aside0.mk ((HK.out.trans hK3).alloc (.cells #[.int .u8 k, .string (bs s), .slice A2 p.length c2] 101))
        have BK5 := Aside0.mk (blk_new W3 (.cells #[.int .u8 k, .string (bs s), .slice A2 p.length c2] 101))
        clear hi4 hi6 htk z0 f0 i2 hP3 hK3 HR HK
        go_upto_region 4 with (fail)
        obtain ⟨g5, hg5⟩ : ∃ g5, W3.heap.size = g5 := ⟨_, rfl⟩
        rw [hg5] at BK5 ⊢
        clear hg5
        generalize W3.alloc (.cells #[.int .u8 k, .string (bs s), .slice A2 p.length c2] 101) = W4 at *
        obtain ⟨z0, z1, z2, f0, f1, f2⟩ := cells_3 BK5.out
        have HB4 := Aside0.mk HP4.out.below
        have h56 : g5 < W4.heap.size := blk_lt BK5.out
        have h56n : g5 ≠ W4.heap.size := by omega
        have h56m : W4.heap.size ≠ g5 := by omega
        go_region_held3 (fun w' => w'.cell? ⟨g5, 0, none⟩ = some (.int .u8 k) ∧ w'.cell? ⟨g5, 1, none⟩ = some (.string (bs s)) ∧ w'.cell? ⟨g5, 2, none⟩ = some (.slice A2 p.length c2))
          (go_keep)
          (first
            | ((go_at_call 136; with_reducible refine (clone_S A2 c2 p W4.drew (Kd.C_below HI2.out (below_drew1 HB4.out)) s3).mono ?_; rintro e w1 ⟨Av, cv, rfl, hv1, hb1⟩; have h5b := blk_below (w := W4.drew) (blk_drew BK5.out) hb1; have h5w := blk_lt h5b; obtain ⟨q0, q1, q2, q3, q4, q5⟩ := cells_3 h5b; have H5B := Aside0.mk h5b; clear h5b z0 z1 z2 f0 f1 f2))
            | ((go_at_call 136; with_reducible refine (clone_S A2 c2 p ((W4.alloc (.cells #[.int .u8 0, .string ⟨#[]⟩, .slice none 0 0, .slice none 0 0, .slice none 0 0] 37)).drew) (Kd.C_below HI2.out (below_drew1 (below_alloc HB4.out _))) s3).mono ?_; rintro e w1 ⟨Av, cv, rfl, hv1, hb1⟩; have BKz := blk_below (blk_drew (blk_new W4 (.cells #[.int .u8 0, .string ⟨#[]⟩, .slice none 0 0, .slice none 0 0, .slice none 0 0] 37))) hb1; have BKZ := Aside0.mk BKz; obtain ⟨m0, m1, m2, m3, m4, n0, n1, n2, n3, n4⟩ := cells_5 BKz; clear BKz; have h5b := blk_below (blk_drew (blk_alloc BK5.out _)) hb1; have h5w := blk_lt h5b; obtain ⟨q0, q1, q2, q3, q4, q5⟩ := cells_3 h5b; have H5B := Aside0.mk h5b; clear h5b z0 z1 z2 f0 f1 f2)))
        all_goals have hWW : W.heap.size ≤ W4.heap.size := HK4.out.size
        · have HBw := Aside0.mk (below_step (below_drew1 (Below.refl W4.heap.size W4)) hb1)
          have BK6 := Aside0.mk (blk_new w1 (.cells #[.int .u8 k, .string (bs s), .slice Av p.length cv, .slice none 0 0, .slice none 0 0] 37))
          have h46 : W4.heap.size ≤ w1.heap.size := HBw.out.size
          have HBz := Aside0.mk (below_alloc HBw.out (.cells #[.int .u8 k, .string (bs s), .slice Av p.length cv, .slice none 0 0, .slice none 0 0] 37))
          have HPT : Aside0 (Kd.string.R 9 (w1.alloc (.cells #[.int .u8 k, .string (bs s), .slice Av p.length cv, .slice none 0 0, .slice none 0 0] 37)) W.heap.size (fun z => W4.heap.size ≤ z ∧ z ≠ w1.heap.size) (.slice Av p.length cv) (p.map bs)) := ⟨Kd.R_alloc (Kd.R_mono (Kd.R_lower (Kd.R_bound hv1) hWW) (fun z hz => ⟨by have := hz.2.1; simpa using this, by have := hz.2.2.1; omega⟩)) _⟩
          have HR6 : Aside0 (kN.R 37 (w1.alloc (.cells #[.int .u8 k, .string (bs s), .slice Av p.length cv, .slice none 0 0, .slice none 0 0] 37)) W.heap.size (fun z => W.heap.size ≤ z ∧ z ≠ w1.heap.size) (.slice Aa acc.len ca) acc.of) := ⟨Kd.R_below (Kd.R_mono (Kd.R_bound HR4.out) (fun z hz => ⟨hz.1, by have := hz.2.2.1; omega⟩)) HBz.out⟩
          have h6s : w1.heap.size < (w1.alloc (.cells #[.int .u8 k, .string (bs s), .slice Av p.length cv, .slice none 0 0, .slice none 0 0] 37)).heap.size := by simp
          obtain ⟨g6, hg6⟩ : ∃ g6, w1.heap.size = g6 := ⟨_, rfl⟩
          rw [hg6] at BK6 HPT HR6 h6s h46 ⊢
          clear hg6 h5w q0 q1 q2 q3 q4 q5
          have H5C := Aside0.mk (blk_alloc H5B.out (.cells #[.int .u8 k, .string (bs s), .slice Av p.length cv, .slice none 0 0, .slice none 0 0] 37))
          generalize w1.alloc (.cells #[.int .u8 k, .string (bs s), .slice Av p.length cv, .slice none 0 0, .slice none 0 0] 37) = W6 at *
          have hg6g : g ≠ g6 := by omega
          have hw06 : w0.heap.size ≤ g6 := by have := HP4.out.lt; have := HP4.out.ge; omega
          have HP6 : Aside0 (PS w0 W6 g q) := ⟨HP4.out.keep (KeepP.of_below (ok := fun _ => False) HBz.out) (fun h => h) (fun _ h => h.elim)⟩
          have HK6 : Aside0 (KeepP (fun z => z = g) W W6) := ⟨HK4.out.trans (KeepP.of_below HBz.out)⟩
          have HOB : Aside0 (∀ z, (Value.slice Aa acc.len ca).ownBlock = some z → z < W4.heap.size) := ⟨Kd.R_lt HR4.out⟩
          have HOK : Aside0 (∀ z, (W4.heap.size ≤ z ∧ z ≠ g6) → W.heap.size ≤ z ∧ some z ≠ (Value.slice Aa acc.len ca).ownBlock) := ⟨fun z hz => ⟨Nat.le_trans hWW hz.1, fun e => by have := HOB.out z e.symm; omega⟩⟩
          have h66 : W4.heap.size ≤ W6.heap.size := by omega
          obtain ⟨x0, x1, x2, y0, y1, y2⟩ := cells_3 H5C.out
          clear H5B H5C BK5 HP4 HR4 HK4 HB4 hb1 hv1 HBz HBw HI2
          by_cases hk35 : k = 3 ∨ k = 5
          · have hO := HO2.out
            rw [if_pos hk35] at hO
            have hw := within_any a w0 HE.out m HN.out q W6 g g6 k s (.slice Av p.length cv) (by have := HQN.out; omega) hmx HSQ.out HP6.out hg6g hw06 BK6.out
            cases hwi : within k q with
            | none =>
              rw [hwi] at hO hw
              obtain rfl : o = none := hO
              clear hwi
              rcases hk35 with rfl | rfl
              all_goals
                go_wp2_with fail
                refine hw.mono ?_
                rintro e W7 ⟨hk7, rfl⟩
                have HK7 : Aside0 (KeepP (fun z => z = g) W W7) := ⟨HK6.out.trans2 hk7 (fun z hz => hz.elim (fun h => .inl h) (fun h => .inr (by omega)))⟩
                clear hw hk7
                go_wp2
                go_ret2
                exact ⟨HK7.out, rfl⟩
            | some z =>
              obtain ⟨x, y, r1⟩ := z
              rw [hwi] at hO hw
              have hcw := within_cnt hwi
              have HSR : Aside0 (∀ z, z ∈ r1 → z.sm) := ⟨fun z hz => HSQ.out z (within_sub hwi z hz)⟩
              simp only at hO
              have HO3 : Aside0 (o = (parse r1).map (fun z => ((acc.app (.cons k s p x y .nil)).app z.1, z.2))) := ⟨by rw [hO]; cases parse r1 with | none => rfl | some z => simp [app_app, app]⟩
              clear hwi hO HO2
              rcases hk35 with rfl | rfl
              · go_wp2_with fail
                refine hw.mono ?_
                rintro e W7 ⟨hk7, rfl, A3, c3, A4, c4, BK7, hX, hY, hP7⟩
                have HK7 : Aside0 (KeepP (fun z => z = g) W W7) := ⟨HK6.out.trans2 hk7 (fun z hz => hz.elim (fun h => .inl h) (fun h => .inr (by omega)))⟩
                have HR7 : Aside0 (kN.R 37 W7 W.heap.size (fun z => W.heap.size ≤ z) (.slice Aa acc.len ca) acc.of) := ⟨Kd.R_mono (RN.keep HR6.out hk7 (fun z hz e => e.elim (fun h => by omega) hz.2)) (fun z hz => hz.1)⟩
                have HPT7 : Aside0 (Kd.string.R 9 W7 W.heap.size (fun z => W4.heap.size ≤ z ∧ z ≠ g6) (.slice Av p.length cv) (p.map bs)) := ⟨Kd.R_step HPT.out (fun z hz hlt => hk7.blk z hlt (fun e => e.elim (fun h => by omega) hz.2))⟩
                have HX7 : Aside0 (kN.R 37 W7 W.heap.size (fun z => W4.heap.size ≤ z ∧ z ≠ g6) (.slice A3 x.len c3) x.of) := ⟨Kd.R_mono (Kd.R_lower hX (by omega)) (fun z hz => ⟨by omega, by omega⟩)⟩
                have HY7 : Aside0 (kN.R 37 W7 W.heap.size (fun z => W4.heap.size ≤ z ∧ z ≠ g6) (.slice A4 y.len c4) y.of) := ⟨Kd.R_mono (Kd.R_lower hY (by omega)) (fun z hz => ⟨by omega, by omega⟩)⟩
                have HP7 := Aside0.mk hP7
                have BK7' := Aside0.mk BK7
                clear hw hk7 hX hY hP7 BK7
                have hal : (acc.of.length + 1) * 96 ≤ 140737488355328 := by rw [of_len]; have := len_cnt acc; omega
                have hsm : acc.cnt + (1 + x.cnt + y.cnt) + r1.length ≤ l.length := by omega
                have hrq : r1.length < q.length + 1 := by omega
                have HS7 : W.heap.size ≤ W7.heap.size := HK7.out.size
                have HB7 := Aside0.mk (KeepP.below (B := g) HK7.out (fun z h => Nat.le_of_eq h.symm) (Nat.le_of_lt hgW))
                have HG7 : Aside0 (∀ z, some z = (Value.slice Aa acc.len ca).ownBlock → z ≠ g) := ⟨fun z e h => by have := Kd.R_base HR7.out z e.symm; omega⟩
                obtain ⟨z0, z1, z2, z3, z4, f0, f1, f2, f3, f4⟩ := cells_5 BK7'.out
                clear x0 x1 x2 y0 y1 y2
                go_wp2_with (at_builtin; refine Kd.R_append kN (w0 := W7) W.heap.size rfl _ _ 22 37 _ 96 rfl Tryz.underlying22 info_node rfl (by decide) (by decide) (.slice Aa acc.len ca) acc.of ⟨3, bs s, p.map bs, x.of, y.of⟩ [.int .u8 3, .string (bs s), .slice Av p.length cv, .slice A3 x.len c3, .slice A4 y.len c4] (fun z => W.heap.size ≤ z) (fun z => W4.heap.size ≤ z ∧ z ≠ g6) (by rfl) (by rfl) (k37_mkM _ _ _ ⟨3, bs s, p.map bs, x.of, y.of⟩ HPT7.out HX7.out HY7.out) HOK.out (fun z hz => Nat.le_trans HS7 hz) HR7.out (Below.refl _ _) HS7 hal ?_; intro v9 W9 hR9 hB9 hg9 hat9)
                have HB9 := Aside0.mk hB9
                have HR9 := Aside0.mk hR9
                obtain ⟨A9, c9, e9⟩ := Kd.R_slice hR9
                have hlen9 : (acc.of ++ [(⟨3, bs s, p.map bs, x.of, y.of⟩ : SN)]).length = (acc.app (.cons 3 s p x y .nil)).len := by rw [app_len, List.length_append, of_len]; rfl
                rw [hlen9] at e9
                subst e9
                have HP9 : Aside0 (PS w0 W9 g r1) := ⟨HP7.out.keep (KeepP.grown (ok := fun z => some z = (Value.slice Aa acc.len ca).ownBlock) hg9 (fun z hz => hz.symm)) (fun e => HG7.out g e rfl) (fun z e => by have h1 := Kd.R_base HR7.out z e.symm; have h2 := HP7.out.ge; omega)⟩
                have HK9 : Aside0 (KeepP (fun z => z = g) W W9) := ⟨HK7.out.trans2 (KeepP.grown (ok := fun z => some z = (Value.slice Aa acc.len ca).ownBlock) hg9 (fun z hz => hz.symm)) (fun z e => .inr (Kd.R_base HR7.out z e.symm))⟩
                clear hg9 hat9 hB9 hR9
                go_roundg r1.length
                case measure => simp only [List.length_cons]; exact hrq
                case rel => exact ⟨r1, acc.app (.cons 3 s p x y .nil), A9, c9, rfl, rfl, HO3, ⟨by rw [app_cnt]; exact hsm⟩, ⟨HSR.out⟩, ⟨by rw [app_of]; exact HR9.out⟩, HP9, HK9⟩
              · go_wp2_with fail
                refine hw.mono ?_
                rintro e W7 ⟨hk7, rfl, A3, c3, A4, c4, BK7, hX, hY, hP7⟩
                have HK7 : Aside0 (KeepP (fun z => z = g) W W7) := ⟨HK6.out.trans2 hk7 (fun z hz => hz.elim (fun h => .inl h) (fun h => .inr (by omega)))⟩
                have HR7 : Aside0 (kN.R 37 W7 W.heap.size (fun z => W.heap.size ≤ z) (.slice Aa acc.len ca) acc.of) := ⟨Kd.R_mono (RN.keep HR6.out hk7 (fun z hz e => e.elim (fun h => by omega) hz.2)) (fun z hz => hz.1)⟩
                have HPT7 : Aside0 (Kd.string.R 9 W7 W.heap.size (fun z => W4.heap.size ≤ z ∧ z ≠ g6) (.slice Av p.length cv) (p.map bs)) := ⟨Kd.R_step HPT.out (fun z hz hlt => hk7.blk z hlt (fun e => e.elim (fun h => by omega) hz.2))⟩
                have HX7 : Aside0 (kN.R 37 W7 W.heap.size (fun z => W4.heap.size ≤ z ∧ z ≠ g6) (.slice A3 x.len c3) x.of) := ⟨Kd.R_mono (Kd.R_lower hX (by omega)) (fun z hz => ⟨by omega, by omega⟩)⟩
                have HY7 : Aside0 (kN.R 37 W7 W.heap.size (fun z => W4.heap.size ≤ z ∧ z ≠ g6) (.slice A4 y.len c4) y.of) := ⟨Kd.R_mono (Kd.R_lower hY (by omega)) (fun z hz => ⟨by omega, by omega⟩)⟩
                have HP7 := Aside0.mk hP7
                have BK7' := Aside0.mk BK7
                clear hw hk7 hX hY hP7 BK7
                have hal : (acc.of.length + 1) * 96 ≤ 140737488355328 := by rw [of_len]; have := len_cnt acc; omega
                have hsm : acc.cnt + (1 + x.cnt + y.cnt) + r1.length ≤ l.length := by omega
                have hrq : r1.length < q.length + 1 := by omega
                have HS7 : W.heap.size ≤ W7.heap.size := HK7.out.size
                have HB7 := Aside0.mk (KeepP.below (B := g) HK7.out (fun z h => Nat.le_of_eq h.symm) (Nat.le_of_lt hgW))
                have HG7 : Aside0 (∀ z, some z = (Value.slice Aa acc.len ca).ownBlock → z ≠ g) := ⟨fun z e h => by have := Kd.R_base HR7.out z e.symm; omega⟩
                obtain ⟨z0, z1, z2, z3, z4, f0, f1, f2, f3, f4⟩ := cells_5 BK7'.out
                clear x0 x1 x2 y0 y1 y2
                go_wp2_with (at_builtin; refine Kd.R_append kN (w0 := W7) W.heap.size rfl _ _ 22 37 _ 96 rfl Tryz.underlying22 info_node rfl (by decide) (by decide) (.slice Aa acc.len ca) acc.of ⟨5, bs s, p.map bs, x.of, y.of⟩ [.int .u8 5, .string (bs s), .slice Av p.length cv, .slice A3 x.len c3, .slice A4 y.len c4] (fun z => W.heap.size ≤ z) (fun z => W4.heap.size ≤ z ∧ z ≠ g6) (by rfl) (by rfl) (k37_mkM _ _ _ ⟨5, bs s, p.map bs, x.of, y.of⟩ HPT7.out HX7.out HY7.out) HOK.out (fun z hz => Nat.le_trans HS7 hz) HR7.out (Below.refl _ _) HS7 hal ?_; intro v9 W9 hR9 hB9 hg9 hat9)
                have HB9 := Aside0.mk hB9
                have HR9 := Aside0.mk hR9
                obtain ⟨A9, c9, e9⟩ := Kd.R_slice hR9
                have hlen9 : (acc.of ++ [(⟨5, bs s, p.map bs, x.of, y.of⟩ : SN)]).length = (acc.app (.cons 5 s p x y .nil)).len := by rw [app_len, List.length_append, of_len]; rfl
                rw [hlen9] at e9
                subst e9
                have HP9 : Aside0 (PS w0 W9 g r1) := ⟨HP7.out.keep (KeepP.grown (ok := fun z => some z = (Value.slice Aa acc.len ca).ownBlock) hg9 (fun z hz => hz.symm)) (fun e => HG7.out g e rfl) (fun z e => by have h1 := Kd.R_base HR7.out z e.symm; have h2 := HP7.out.ge; omega)⟩
                have HK9 : Aside0 (KeepP (fun z => z = g) W W9) := ⟨HK7.out.trans2 (KeepP.grown (ok := fun z => some z = (Value.slice Aa acc.len ca).ownBlock) hg9 (fun z hz => hz.symm)) (fun z e => .inr (Kd.R_base HR7.out z e.symm))⟩
                clear hg9 hat9 hB9 hR9
                go_roundg r1.length
                case measure => simp only [List.length_cons]; exact hrq
                case rel => exact ⟨r1, acc.app (.cons 5 s p x y .nil), A9, c9, rfl, rfl, HO3, ⟨by rw [app_cnt]; exact hsm⟩, ⟨HSR.out⟩, ⟨by rw [app_of]; exact HR9.out⟩, HP9, HK9⟩
          · have hO := HO2.out
            rw [if_neg hk35] at hO
            have n3 : ((k : Int) == 3) = false := by rw [beq_eq_false_iff_ne]; omega
            have n5 : ((k : Int) == 5) = false := by rw [beq_eq_false_iff_ne]; omega
            have HO3 : Aside0 (o = (parse q).map (fun z => ((acc.app (.cons k s p .nil .nil .nil)).app z.1, z.2))) := ⟨by rw [hO]; cases parse q with | none => rfl | some z => simp [app_app, app]⟩
            obtain ⟨x, hx⟩ : ∃ x : Nodes, x = .nil := ⟨_, rfl⟩
            obtain ⟨y, hy⟩ : ∃ y : Nodes, y = .nil := ⟨_, rfl⟩
            obtain ⟨r1, hr1⟩ : ∃ r1, q = r1 := ⟨_, rfl⟩
            have HO4 : Aside0 (o = (parse r1).map (fun z => ((acc.app (.cons k s p x y .nil)).app z.1, z.2))) := ⟨by rw [hx, hy, ← hr1]; exact HO3.out⟩
            have HSR : Aside0 (∀ z, z ∈ r1 → z.sm) := ⟨hr1 ▸ HSQ.out⟩
            have hcw : x.cnt + y.cnt + r1.length ≤ q.length := by rw [hx, hy, ← hr1]; simp [cnt]
            have HX7 : Aside0 (kN.R 37 W6 W.heap.size (fun z => W4.heap.size ≤ z ∧ z ≠ g6) (.slice none 0 0) x.of) := ⟨hx ▸ Kd.R_nil _ _ _ _ _⟩
            have HY7 : Aside0 (kN.R 37 W6 W.heap.size (fun z => W4.heap.size ≤ z ∧ z ≠ g6) (.slice none 0 0) y.of) := ⟨hy ▸ Kd.R_nil _ _ _ _ _⟩
            have HP7 : Aside0 (PS w0 W6 g r1) := ⟨hr1 ▸ HP6.out⟩
            have HR7 : Aside0 (kN.R 37 W6 W.heap.size (fun z => W.heap.size ≤ z) (.slice Aa acc.len ca) acc.of) := ⟨Kd.R_mono HR6.out (fun z hz => hz.1)⟩
            have HPT7 := HPT
            have BK7' := BK6
            have HK7 := HK6
            clear hO HO2 HO3 hk35 hx hy hr1
            have hal : (acc.of.length + 1) * 96 ≤ 140737488355328 := by rw [of_len]; have := len_cnt acc; omega
            have hsm : acc.cnt + (1 + x.cnt + y.cnt) + r1.length ≤ l.length := by omega
            have hrq : r1.length < q.length + 1 := by omega
            have HS7 : W.heap.size ≤ W6.heap.size := HK7.out.size
            have HB7 := Aside0.mk (KeepP.below (B := g) HK7.out (fun z h => Nat.le_of_eq h.symm) (Nat.le_of_lt hgW))
            have HG7 : Aside0 (∀ z, some z = (Value.slice Aa acc.len ca).ownBlock → z ≠ g) := ⟨fun z e h => by have := Kd.R_base HR7.out z e.symm; omega⟩
            obtain ⟨z0, z1, z2, z3, z4, f0, f1, f2, f3, f4⟩ := cells_5 BK7'.out
            go_wp2_with (at_builtin; refine Kd.R_append kN (w0 := W6) W.heap.size rfl _ _ 22 37 _ 96 rfl Tryz.underlying22 info_node rfl (by decide) (by decide) (.slice Aa acc.len ca) acc.of ⟨k, bs s, p.map bs, x.of, y.of⟩ [.int .u8 k, .string (bs s), .slice Av p.length cv, .slice none 0 0, .slice none 0 0] (fun z => W.heap.size ≤ z) (fun z => W4.heap.size ≤ z ∧ z ≠ g6) (by rfl) (by rfl) (k37_mkM _ _ _ ⟨k, bs s, p.map bs, x.of, y.of⟩ HPT7.out HX7.out HY7.out) HOK.out (fun z hz => Nat.le_trans HS7 hz) HR7.out (Below.refl _ _) HS7 hal ?_; intro v9 W9 hR9 hB9 hg9 hat9)
            have HB9 := Aside0.mk hB9
            have HR9 := Aside0.mk hR9
            obtain ⟨A9, c9, e9⟩ := Kd.R_slice hR9
            have hlen9 : (acc.of ++ [(⟨k, bs s, p.map bs, x.of, y.of⟩ : SN)]).length = (acc.app (.cons k s p x y .nil)).len := by rw [app_len, List.length_append, of_len]; rfl
            rw [hlen9] at e9
            subst e9
            have HP9 : Aside0 (PS w0 W9 g r1) := ⟨HP7.out.keep (KeepP.grown (ok := fun z => some z = (Value.slice Aa acc.len ca).ownBlock) hg9 (fun z hz => hz.symm)) (fun e => HG7.out g e rfl) (fun z e => by have h1 := Kd.R_base HR7.out z e.symm; have h2 := HP7.out.ge; omega)⟩
            have HK9 : Aside0 (KeepP (fun z => z = g) W W9) := ⟨HK7.out.trans2 (KeepP.grown (ok := fun z => some z = (Value.slice Aa acc.len ca).ownBlock) hg9 (fun z hz => hz.symm)) (fun z e => .inr (Kd.R_base HR7.out z e.symm))⟩
            clear hg9 hat9 hB9 hR9
            go_roundg r1.length
            case measure => simp only [List.length_cons]; exact hrq
            case rel => exact ⟨r1, acc.app (.cons k s p x y .nil), A9, c9, rfl, rfl, HO4, ⟨by rw [app_cnt]; exact hsm⟩, ⟨HSR.out⟩, ⟨by rw [app_of]; exact HR9.out⟩, HP9, HK9⟩
        · obtain ⟨g6, hg6⟩ : ∃ g6, g6 = W4.heap.size := ⟨_, rfl⟩
          rw [← hg6] at BKZ ⊢
          have h46 : W4.heap.size ≤ g6 := Nat.le_of_eq hg6.symm
          have h56g : g5 ≠ g6 := by omega
          have HBw := Aside0.mk (below_step (below_drew1 (below_alloc (Below.refl W4.heap.size W4) (.cells #[.int .u8 0, .string ⟨#[]⟩, .slice none 0 0, .slice none 0 0, .slice none 0 0] 37))) hb1)
          have BK6 := Aside0.mk (blk_put (blk_put (blk_put (blk_put (blk_put BKZ.out 0 (.int .u8 k) rfl) 1 (.string (bs s)) rfl) 2 (.slice Av p.length cv) rfl) 3 (.slice none 0 0) rfl) 4 (.slice none 0 0) rfl)
          have HBz := Aside0.mk (below_set (below_set (below_set (below_set (below_set HBw.out (g := g6) (j := 0) (v := .int .u8 k) h46) (j := 1) (v := .string (bs s)) h46) (j := 2) (v := .slice Av p.length cv) h46) (j := 3) (v := .slice none 0 0) h46) (j := 4) (v := .slice none 0 0) h46)
          have hfar : ∀ z, (W4.heap.size ≤ z ∧ z ≠ g6) → z ≠ g6 := fun _ h => h.2
          have hpt : Kd.string.R 9 w1 W.heap.size (fun z => W4.heap.size ≤ z ∧ z ≠ g6) (.slice Av p.length cv) (p.map bs) := Kd.R_mono (Kd.R_lower hv1 (Nat.le_trans hWW (by simp))) (fun z hz => by simp only [World.size_drew, World.size_alloc] at hz; omega)
          have HPT := Aside0.mk (Kd.R_far (Kd.R_far (Kd.R_far (Kd.R_far (Kd.R_far hpt (p := ⟨g6, 0, none⟩) hfar (.int .u8 k)) (p := ⟨g6, 1, none⟩) hfar (.string (bs s))) (p := ⟨g6, 2, none⟩) hfar (.slice Av p.length cv)) (p := ⟨g6, 3, none⟩) hfar (.slice none 0 0)) (p := ⟨g6, 4, none⟩) hfar (.slice none 0 0))
          have HR6 : Aside0 (kN.R 37 (((((w1.setCell ⟨g6, 0, none⟩ (.int .u8 k)).setCell ⟨g6, 1, none⟩ (.string (bs s))).setCell ⟨g6, 2, none⟩ (.slice Av p.length cv)).setCell ⟨g6, 3, none⟩ (.slice none 0 0)).setCell ⟨g6, 4, none⟩ (.slice none 0 0)) W.heap.size (fun z => W.heap.size ≤ z ∧ z ≠ g6) (.slice Aa acc.len ca) acc.of) := ⟨Kd.R_below (Kd.R_mono (Kd.R_bound HR4.out) (fun z hz => ⟨hz.1, by have := hz.2.2.1; omega⟩)) HBz.out⟩
          have h6s : g6 < (((((w1.setCell ⟨g6, 0, none⟩ (.int .u8 k)).setCell ⟨g6, 1, none⟩ (.string (bs s))).setCell ⟨g6, 2, none⟩ (.slice Av p.length cv)).setCell ⟨g6, 3, none⟩ (.slice none 0 0)).setCell ⟨g6, 4, none⟩ (.slice none 0 0)).heap.size := blk_lt BK6.out
          have H5C := Aside0.mk (blk_far (p := ⟨g6, 4, none⟩) (blk_far (p := ⟨g6, 3, none⟩) (blk_far (p := ⟨g6, 2, none⟩) (blk_far (p := ⟨g6, 1, none⟩) (blk_far (p := ⟨g6, 0, none⟩) H5B.out h56g (.int .u8 k)) h56g (.string (bs s))) h56g (.slice Av p.length cv)) h56g (.slice none 0 0)) h56g (.slice none 0 0))
          clear h5w q0 q1 q2 q3 q4 q5 m0 m1 m2 m3 m4 n0 n1 n2 n3 n4 hpt hfar BKZ hg6
          generalize ((((w1.setCell ⟨g6, 0, none⟩ (.int .u8 k)).setCell ⟨g6, 1, none⟩ (.string (bs s))).setCell ⟨g6, 2, none⟩ (.slice Av p.length cv)).setCell ⟨g6, 3, none⟩ (.slice none 0 0)).setCell ⟨g6, 4, none⟩ (.slice none 0 0) = W6 at *
          have hg6g : g ≠ g6 := by omega
          have hw06 : w0.heap.size ≤ g6 := by have := HP4.out.lt; have := HP4.out.ge; omega
          have HP6 : Aside0 (PS w0 W6 g q) := ⟨HP4.out.keep (KeepP.of_below (ok := fun _ => False) HBz.out) (fun h => h) (fun _ h => h.elim)⟩
          have HK6 : Aside0 (KeepP (fun z => z = g) W W6) := ⟨HK4.out.trans (KeepP.of_below HBz.out)⟩
          have HOB : Aside0 (∀ z, (Value.slice Aa acc.len ca).ownBlock = some z → z < W4.heap.size) := ⟨Kd.R_lt HR4.out⟩
          have HOK : Aside0 (∀ z, (W4.heap.size ≤ z ∧ z ≠ g6) → W.heap.size ≤ z ∧ some z ≠ (Value.slice Aa acc.len ca).ownBlock) := ⟨fun z hz => ⟨Nat.le_trans hWW hz.1, fun e => by have := HOB.out z e.symm; omega⟩⟩
          have h66 : W4.heap.size ≤ W6.heap.size := by omega
          obtain ⟨x0, x1, x2, y0, y1, y2⟩ := cells_3 H5C.out
          clear H5B H5C BK5 HP4 HR4 HK4 HB4 hb1 hv1 HBz HBw HI2
          by_cases hk35 : k = 3 ∨ k = 5
          · have hO := HO2.out
            rw [if_pos hk35] at hO
            have hw := within_any a w0 HE.out m HN.out q W6 g g6 k s (.slice Av p.length cv) (by have := HQN.out; omega) hmx HSQ.out HP6.out hg6g hw06 BK6.out
            cases hwi : within k q with
            | none =>
              rw [hwi] at hO hw
              obtain rfl : o = none := hO
              clear hwi
              rcases hk35 with rfl | rfl
              all_goals
                go_wp2_with fail
                refine hw.mono ?_
                rintro e W7 ⟨hk7, rfl⟩
                have HK7 : Aside0 (KeepP (fun z => z = g) W W7) := ⟨HK6.out.trans2 hk7 (fun z hz => hz.elim (fun h => .inl h) (fun h => .inr (by omega)))⟩
                clear hw hk7
                go_wp2
                go_ret2
                exact ⟨HK7.out, rfl⟩
            | some z =>
              obtain ⟨x, y, r1⟩ := z
              rw [hwi] at hO hw
              have hcw := within_cnt hwi
              have HSR : Aside0 (∀ z, z ∈ r1 → z.sm) := ⟨fun z hz => HSQ.out z (within_sub hwi z hz)⟩
              simp only at hO
              have HO3 : Aside0 (o = (parse r1).map (fun z => ((acc.app (.cons k s p x y .nil)).app z.1, z.2))) := ⟨by rw [hO]; cases parse r1 with | none => rfl | some z => simp [app_app, app]⟩
              clear hwi hO HO2
              rcases hk35 with rfl | rfl
              · go_wp2_with fail
                refine hw.mono ?_
                rintro e W7 ⟨hk7, rfl, A3, c3, A4, c4, BK7, hX, hY, hP7⟩
                have HK7 : Aside0 (KeepP (fun z => z = g) W W7) := ⟨HK6.out.trans2 hk7 (fun z hz => hz.elim (fun h => .inl h) (fun h => .inr (by omega)))⟩
                have HR7 : Aside0 (kN.R 37 W7 W.heap.size (fun z => W.heap.size ≤ z) (.slice Aa acc.len ca) acc.of) := ⟨Kd.R_mono (RN.keep HR6.out hk7 (fun z hz e => e.elim (fun h => by omega) hz.2)) (fun z hz => hz.1)⟩
                have HPT7 : Aside0 (Kd.string.R 9 W7 W.heap.size (fun z => W4.heap.size ≤ z ∧ z ≠ g6) (.slice Av p.length cv) (p.map bs)) := ⟨Kd.R_step HPT.out (fun z hz hlt => hk7.blk z hlt (fun e => e.elim (fun h => by omega) hz.2))⟩
                have HX7 : Aside0 (kN.R 37 W7 W.heap.size (fun z => W4.heap.size ≤ z ∧ z ≠ g6) (.slice A3 x.len c3) x.of) := ⟨Kd.R_mono (Kd.R_lower hX (by omega)) (fun z hz => ⟨by omega, by omega⟩)⟩
                have HY7 : Aside0 (kN.R 37 W7 W.heap.size (fun z => W4.heap.size ≤ z ∧ z ≠ g6) (.slice A4 y.len c4) y.of) := ⟨Kd.R_mono (Kd.R_lower hY (by omega)) (fun z hz => ⟨by omega, by omega⟩)⟩
                have HP7 := Aside0.mk hP7
                have BK7' := Aside0.mk BK7
                clear hw hk7 hX hY hP7 BK7
                have hal : (acc.of.length + 1) * 96 ≤ 140737488355328 := by rw [of_len]; have := len_cnt acc; omega
                have hsm : acc.cnt + (1 + x.cnt + y.cnt) + r1.length ≤ l.length := by omega
                have hrq : r1.length < q.length + 1 := by omega
                have HS7 : W.heap.size ≤ W7.heap.size := HK7.out.size
                have HB7 := Aside0.mk (KeepP.below (B := g) HK7.out (fun z h => Nat.le_of_eq h.symm) (Nat.le_of_lt hgW))
                have HG7 : Aside0 (∀ z, some z = (Value.slice Aa acc.len ca).ownBlock → z ≠ g) := ⟨fun z e h => by have := Kd.R_base HR7.out z e.symm; omega⟩
                obtain ⟨z0, z1, z2, z3, z4, f0, f1, f2, f3, f4⟩ := cells_5 BK7'.out
                clear x0 x1 x2 y0 y1 y2
                go_wp2_with (at_builtin; refine Kd.R_append kN (w0 := W7) W.heap.size rfl _ _ 22 37 _ 96 rfl Tryz.underlying22 info_node rfl (by decide) (by decide) (.slice Aa acc.len ca) acc.of ⟨3, bs s, p.map bs, x.of, y.of⟩ [.int .u8 3, .string (bs s), .slice Av p.length cv, .slice A3 x.len c3, .slice A4 y.len c4] (fun z => W.heap.size ≤ z) (fun z => W4.heap.size ≤ z ∧ z ≠ g6) (by rfl) (by rfl) (k37_mkM _ _ _ ⟨3, bs s, p.map bs, x.of, y.of⟩ HPT7.out HX7.out HY7.out) HOK.out (fun z hz => Nat.le_trans HS7 hz) HR7.out (Below.refl _ _) HS7 hal ?_; intro v9 W9 hR9 hB9 hg9 hat9)
                have HB9 := Aside0.mk hB9
                have HR9 := Aside0.mk hR9
                obtain ⟨A9, c9, e9⟩ := Kd.R_slice hR9
                have hlen9 : (acc.of ++ [(⟨3, bs s, p.map bs, x.of, y.of⟩ : SN)]).length = (acc.app (.cons 3 s p x y .nil)).len := by rw [app_len, List.length_append, of_len]; rfl
                rw [hlen9] at e9
                subst e9
                have HP9 : Aside0 (PS w0 W9 g r1) := ⟨HP7.out.keep (KeepP.grown (ok := fun z => some z = (Value.slice Aa acc.len ca).ownBlock) hg9 (fun z hz => hz.symm)) (fun e => HG7.out g e rfl) (fun z e => by have h1 := Kd.R_base HR7.out z e.symm; have h2 := HP7.out.ge; omega)⟩
                have HK9 : Aside0 (KeepP (fun z => z = g) W W9) := ⟨HK7.out.trans2 (KeepP.grown (ok := fun z => some z = (Value.slice Aa acc.len ca).ownBlock) hg9 (fun z hz => hz.symm)) (fun z e => .inr (Kd.R_base HR7.out z e.symm))⟩
                clear hg9 hat9 hB9 hR9
                go_roundg r1.length
                case measure => simp only [List.length_cons]; exact hrq
                case rel => exact ⟨r1, acc.app (.cons 3 s p x y .nil), A9, c9, rfl, rfl, HO3, ⟨by rw [app_cnt]; exact hsm⟩, ⟨HSR.out⟩, ⟨by rw [app_of]; exact HR9.out⟩, HP9, HK9⟩
              · go_wp2_with fail
                refine hw.mono ?_
                rintro e W7 ⟨hk7, rfl, A3, c3, A4, c4, BK7, hX, hY, hP7⟩
                have HK7 : Aside0 (KeepP (fun z => z = g) W W7) := ⟨HK6.out.trans2 hk7 (fun z hz => hz.elim (fun h => .inl h) (fun h => .inr (by omega)))⟩
                have HR7 : Aside0 (kN.R 37 W7 W.heap.size (fun z => W.heap.size ≤ z) (.slice Aa acc.len ca) acc.of) := ⟨Kd.R_mono (RN.keep HR6.out hk7 (fun z hz e => e.elim (fun h => by omega) hz.2)) (fun z hz => hz.1)⟩
                have HPT7 : Aside0 (Kd.string.R 9 W7 W.heap.size (fun z => W4.heap.size ≤ z ∧ z ≠ g6) (.slice Av p.length cv) (p.map bs)) := ⟨Kd.R_step HPT.out (fun z hz hlt => hk7.blk z hlt (fun e => e.elim (fun h => by omega) hz.2))⟩
                have HX7 : Aside0 (kN.R 37 W7 W.heap.size (fun z => W4.heap.size ≤ z ∧ z ≠ g6) (.slice A3 x.len c3) x.of) := ⟨Kd.R_mono (Kd.R_lower hX (by omega)) (fun z hz => ⟨by omega, by omega⟩)⟩
                have HY7 : Aside0 (kN.R 37 W7 W.heap.size (fun z => W4.heap.size ≤ z ∧ z ≠ g6) (.slice A4 y.len c4) y.of) := ⟨Kd.R_mono (Kd.R_lower hY (by omega)) (fun z hz => ⟨by omega, by omega⟩)⟩
                have HP7 := Aside0.mk hP7
                have BK7' := Aside0.mk BK7
                clear hw hk7 hX hY hP7 BK7
                have hal : (acc.of.length + 1) * 96 ≤ 140737488355328 := by rw [of_len]; have := len_cnt acc; omega
                have hsm : acc.cnt + (1 + x.cnt + y.cnt) + r1.length ≤ l.length := by omega
                have hrq : r1.length < q.length + 1 := by omega
                have HS7 : W.heap.size ≤ W7.heap.size := HK7.out.size
                have HB7 := Aside0.mk (KeepP.below (B := g) HK7.out (fun z h => Nat.le_of_eq h.symm) (Nat.le_of_lt hgW))
                have HG7 : Aside0 (∀ z, some z = (Value.slice Aa acc.len ca).ownBlock → z ≠ g) := ⟨fun z e h => by have := Kd.R_base HR7.out z e.symm; omega⟩
                obtain ⟨z0, z1, z2, z3, z4, f0, f1, f2, f3, f4⟩ := cells_5 BK7'.out
                clear x0 x1 x2 y0 y1 y2
                go_wp2_with (at_builtin; refine Kd.R_append kN (w0 := W7) W.heap.size rfl _ _ 22 37 _ 96 rfl Tryz.underlying22 info_node rfl (by decide) (by decide) (.slice Aa acc.len ca) acc.of ⟨5, bs s, p.map bs, x.of, y.of⟩ [.int .u8 5, .string (bs s), .slice Av p.length cv, .slice A3 x.len c3, .slice A4 y.len c4] (fun z => W.heap.size ≤ z) (fun z => W4.heap.size ≤ z ∧ z ≠ g6) (by rfl) (by rfl) (k37_mkM _ _ _ ⟨5, bs s, p.map bs, x.of, y.of⟩ HPT7.out HX7.out HY7.out) HOK.out (fun z hz => Nat.le_trans HS7 hz) HR7.out (Below.refl _ _) HS7 hal ?_; intro v9 W9 hR9 hB9 hg9 hat9)
                have HB9 := Aside0.mk hB9
                have HR9 := Aside0.mk hR9
                obtain ⟨A9, c9, e9⟩ := Kd.R_slice hR9
                have hlen9 : (acc.of ++ [(⟨5, bs s, p.map bs, x.of, y.of⟩ : SN)]).length = (acc.app (.cons 5 s p x y .nil)).len := by rw [app_len, List.length_append, of_len]; rfl
                rw [hlen9] at e9
                subst e9
                have HP9 : Aside0 (PS w0 W9 g r1) := ⟨HP7.out.keep (KeepP.grown (ok := fun z => some z = (Value.slice Aa acc.len ca).ownBlock) hg9 (fun z hz => hz.symm)) (fun e => HG7.out g e rfl) (fun z e => by have h1 := Kd.R_base HR7.out z e.symm; have h2 := HP7.out.ge; omega)⟩
                have HK9 : Aside0 (KeepP (fun z => z = g) W W9) := ⟨HK7.out.trans2 (KeepP.grown (ok := fun z => some z = (Value.slice Aa acc.len ca).ownBlock) hg9 (fun z hz => hz.symm)) (fun z e => .inr (Kd.R_base HR7.out z e.symm))⟩
                clear hg9 hat9 hB9 hR9
                go_roundg r1.length
                case measure => simp only [List.length_cons]; exact hrq
                case rel => exact ⟨r1, acc.app (.cons 5 s p x y .nil), A9, c9, rfl, rfl, HO3, ⟨by rw [app_cnt]; exact hsm⟩, ⟨HSR.out⟩, ⟨by rw [app_of]; exact HR9.out⟩, HP9, HK9⟩
          · have hO := HO2.out
            rw [if_neg hk35] at hO
            have n3 : ((k : Int) == 3) = false := by rw [beq_eq_false_iff_ne]; omega
            have n5 : ((k : Int) == 5) = false := by rw [beq_eq_false_iff_ne]; omega
            have HO3 : Aside0 (o = (parse q).map (fun z => ((acc.app (.cons k s p .nil .nil .nil)).app z.1, z.2))) := ⟨by rw [hO]; cases parse q with | none => rfl | some z => simp [app_app, app]⟩
            obtain ⟨x, hx⟩ : ∃ x : Nodes, x = .nil := ⟨_, rfl⟩
            obtain ⟨y, hy⟩ : ∃ y : Nodes, y = .nil := ⟨_, rfl⟩
            obtain ⟨r1, hr1⟩ : ∃ r1, q = r1 := ⟨_, rfl⟩
            have HO4 : Aside0 (o = (parse r1).map (fun z => ((acc.app (.cons k s p x y .nil)).app z.1, z.2))) := ⟨by rw [hx, hy, ← hr1]; exact HO3.out⟩
            have HSR : Aside0 (∀ z, z ∈ r1 → z.sm) := ⟨hr1 ▸ HSQ.out⟩
            have hcw : x.cnt + y.cnt + r1.length ≤ q.length := by rw [hx, hy, ← hr1]; simp [cnt]
            have HX7 : Aside0 (kN.R 37 W6 W.heap.size (fun z => W4.heap.size ≤ z ∧ z ≠ g6) (.slice none 0 0) x.of) := ⟨hx ▸ Kd.R_nil _ _ _ _ _⟩
            have HY7 : Aside0 (kN.R 37 W6 W.heap.size (fun z => W4.heap.size ≤ z ∧ z ≠ g6) (.slice none 0 0) y.of) := ⟨hy ▸ Kd.R_nil _ _ _ _ _⟩
            have HP7 : Aside0 (PS w0 W6 g r1) := ⟨hr1 ▸ HP6.out⟩
            have HR7 : Aside0 (kN.R 37 W6 W.heap.size (fun z => W.heap.size ≤ z) (.slice Aa acc.len ca) acc.of) := ⟨Kd.R_mono HR6.out (fun z hz => hz.1)⟩
            have HPT7 := HPT
            have BK7' := BK6
            have HK7 := HK6
            clear hO HO2 HO3 hk35 hx hy hr1
            have hal : (acc.of.length + 1) * 96 ≤ 140737488355328 := by rw [of_len]; have := len_cnt acc; omega
            have hsm : acc.cnt + (1 + x.cnt + y.cnt) + r1.length ≤ l.length := by omega
            have hrq : r1.length < q.length + 1 := by omega
            have HS7 : W.heap.size ≤ W6.heap.size := HK7.out.size
            have HB7 := Aside0.mk (KeepP.below (B := g) HK7.out (fun z h => Nat.le_of_eq h.symm) (Nat.le_of_lt hgW))
            have HG7 : Aside0 (∀ z, some z = (Value.slice Aa acc.len ca).ownBlock → z ≠ g) := ⟨fun z e h => by have := Kd.R_base HR7.out z e.symm; omega⟩
            obtain ⟨z0, z1, z2, z3, z4, f0, f1, f2, f3, f4⟩ := cells_5 BK7'.out
            go_wp2_with (at_builtin; refine Kd.R_append kN (w0 := W6) W.heap.size rfl _ _ 22 37 _ 96 rfl Tryz.underlying22 info_node rfl (by decide) (by decide) (.slice Aa acc.len ca) acc.of ⟨k, bs s, p.map bs, x.of, y.of⟩ [.int .u8 k, .string (bs s), .slice Av p.length cv, .slice none 0 0, .slice none 0 0] (fun z => W.heap.size ≤ z) (fun z => W4.heap.size ≤ z ∧ z ≠ g6) (by rfl) (by rfl) (k37_mkM _ _ _ ⟨k, bs s, p.map bs, x.of, y.of⟩ HPT7.out HX7.out HY7.out) HOK.out (fun z hz => Nat.le_trans HS7 hz) HR7.out (Below.refl _ _) HS7 hal ?_; intro v9 W9 hR9 hB9 hg9 hat9)
            have HB9 := Aside0.mk hB9
            have HR9 := Aside0.mk hR9
            obtain ⟨A9, c9, e9⟩ := Kd.R_slice hR9
            have hlen9 : (acc.of ++ [(⟨k, bs s, p.map bs, x.of, y.of⟩ : SN)]).length = (acc.app (.cons k s p x y .nil)).len := by rw [app_len, List.length_append, of_len]; rfl
            rw [hlen9] at e9
            subst e9
            have HP9 : Aside0 (PS w0 W9 g r1) := ⟨HP7.out.keep (KeepP.grown (ok := fun z => some z = (Value.slice Aa acc.len ca).ownBlock) hg9 (fun z hz => hz.symm)) (fun e => HG7.out g e rfl) (fun z e => by have h1 := Kd.R_base HR7.out z e.symm; have h2 := HP7.out.ge; omega)⟩
            have HK9 : Aside0 (KeepP (fun z => z = g) W W9) := ⟨HK7.out.trans2 (KeepP.grown (ok := fun z => some z = (Value.slice Aa acc.len ca).ownBlock) hg9 (fun z hz => hz.symm)) (fun z e => .inr (Kd.R_base HR7.out z e.symm))⟩
            clear hg9 hat9 hB9 hR9
            go_roundg r1.length
            case measure => simp only [List.length_cons]; exact hrq
            case rel => exact ⟨r1, acc.app (.cons k s p x y .nil), A9, c9, rfl, rfl, HO4, ⟨by rw [app_cnt]; exact hsm⟩, ⟨HSR.out⟩, ⟨by rw [app_of]; exact HR9.out⟩, HP9, HK9⟩
end Go.Proofs.YtniibpndgcndbaaGreatDoor.Tpl
namespace Go.Proofs.YtniibpndgcndbaaGreatDoor.Tpl
open Go.RowKit Go.Proofs Go.Proofs.YtniibpndgcndbaaGreatDoor.PB Go.Proofs.YtniibpndgcndbaaGreatDoor.Short Go.Proofs.YtniibpndgcndbaaGreatDoorW.PrintWords Go.Proofs.YtniibpndgcndbaaGreatDoorW.PrintLast Go.Proofs.YtniibpndgcndbaaGreatDoorW.PrintMore Nodes
set_option maxRecDepth 100000 in
theorem nodes_zero (a : Addr) (w0 : World) : NAll a w0 0 := by
  intro l W g hm hs hP
  have : l = [] := List.length_eq_zero_iff.1 (by omega)
  subst this
  have HP := Aside0.mk hP
  obtain ⟨Ap, cp, hgp, _, _, _⟩ := hP
  have z0 : W.cell? ⟨g, 0, none⟩ = some (.slice Ap 0 cp) := (blk_cell hgp 0).trans rfl
  have f0 := blk_frozen hgp 0
  clear hgp
  rw [parse_nil]
  go_enter Tryz.func144, Tryz.ntmps144
  go_wp2
  refine wp_loop_rounds 1 ?_
  rw [rounds_succ]
  go_wp2
  go_ret2
  exact ⟨KeepP.refl _, _, _, rfl, Kd.R_nil _ _ _ _ _, HP.out⟩
theorem nodes_all (a : Addr) (w0 : World) (hE : GE w0 a) : ∀ m, m ≤ 1048576 → NAll a w0 m := by
  intro m
  induction m with
  | zero => intro _; exact nodes_zero a w0
  | succ m ih => intro hm l W g hl hs hP; exact nodes_step a w0 hE m (by omega) (ih (by omega)) l W g hl hs hP
def ARet (o : Option Nodes) (a : Addr) (w0 W : World) (g : Nat) (e : Ending) (w' : World) : Prop :=
  KeepP (fun k => k = g) W w' ∧
  match o with
  | none => ∃ v, e = .returned (.tuple #[v, errv a])
  | some nd => ∃ A c, e = .returned (.tuple #[.slice A nd.len c, .nilIface]) ∧ kN.R 37 w' W.heap.size (fun k => W.heap.size ≤ k) (.slice A nd.len c) nd.of
def allP (l : List Tok) : Option Nodes := match parse l with | none => none | some (nd, r) => if r = [] then some nd else none
set_option maxRecDepth 100000 in
theorem all_any (a : Addr) (w0 : World) (hE : GE w0 a) (l : List Tok) (W : World) (g : Nat) (hm : l.length ≤ 1048576) (hs : ∀ x, x ∈ l → x.sm) (hP : PS w0 W g l) :
    Calls Tryz.prog 96 #[.pointer (some ⟨g, 0, none⟩)] W (ARet (allP l) a w0 W g) := by
  have h := nodes_all a w0 hE _ hm l W g (Nat.le_refl _) hs hP
  have HE := Aside0.mk hE
  clear hP hE hs
  unfold allP
  cases hp : parse l with
  | none =>
    rw [hp] at h
    clear hp
    go_enter Tryz.func96, Tryz.ntmps96
    go_wp2_with fail
    refine h.mono ?_
    rintro e W1 ⟨hk, rfl⟩
    have HK := Aside0.mk hk
    clear hk h
    go_wp2
    go_ret2
    exact ⟨HK.out, _, rfl⟩
  | some z =>
    obtain ⟨nd, r⟩ := z
    rw [hp] at h
    clear hp
    simp only
    cases r with
    | nil =>
      rw [if_pos rfl]
      go_enter Tryz.func96, Tryz.ntmps96
      go_wp2_with fail
      refine h.mono ?_
      rintro e W1 ⟨hk, A, c, rfl, hR, Ap, cp, hgp, _, _, _⟩
      have z0 : W1.cell? ⟨g, 0, none⟩ = some (.slice Ap 0 cp) := (blk_cell hgp 0).trans rfl
      have f0 := blk_frozen hgp 0
      have HK := Aside0.mk hk
      have HR := Aside0.mk hR
      clear hk h hR hgp
      go_wp2
      go_ret2
      exact ⟨HK.out, _, _, rfl, HR.out⟩
    | cons t r =>
      rw [if_neg (by simp)]
      go_enter Tryz.func96, Tryz.ntmps96
      go_wp2_with fail
      refine h.mono ?_
      rintro e W1 ⟨hk, A, c, rfl, hR, hP⟩
      have hge := HE.out.below hP.below
      unfold GE at hge
      obtain ⟨Ap, cp, hgp, _, _, _⟩ := hP
      have hln : (0 : Int) < (((t :: r).length : Nat) : Int) := by simp
      have hli : 0 < (t :: r).length := by simp
      generalize (t :: r).length = n at *
      have z0 : W1.cell? ⟨g, 0, none⟩ = some (.slice Ap n cp) := (blk_cell hgp 0).trans rfl
      have f0 := blk_frozen hgp 0
      have HK := Aside0.mk hk
      clear hk h hR hgp
      go_wp2
      go_ret2
      exact ⟨HK.out, _, rfl⟩
theorem nodesP_eq (l : List Tok) : nodesP l = if toksP l = false then .error 2 else match allP l with | none => .error 7 | some nd => if nd.fitsP = true then .ok nd else .error 11 := by
  unfold nodesP allP
  split
  · rfl
  · cases parse l with
    | none => rfl
    | some z => obtain ⟨nd, r⟩ := z; cases r <;> simp
def PRet (o : Except Int Nodes) (w : World) (e : Ending) (w' : World) : Prop :=
  Below w.heap.size w w' ∧
  match o with
  | .error k => e = .returned (.tuple #[.slice none 0 0, .int .i64 k])
  | .ok nd => ∃ A c, e = .returned (.tuple #[.slice A nd.len c, .int .i64 0]) ∧ kN.R 37 w' w.heap.size (fun k => w.heap.size ≤ k) (.slice A nd.len c) nd.of ∧ Rd w' A c nd
theorem Rd_of_R {w : World} {base : Nat} {ok : Nat → Prop} {A : Option Addr} {c : Nat} {nd : Nodes} (h : kN.R 37 w base ok (.slice A nd.len c) nd.of) : Rd w A c nd := by
  obtain ⟨h1, h2, h3⟩ := Kd.R_reads' h
  rw [of_len] at h3
  exact ⟨h3, h2⟩
set_option maxHeartbeats 1000000 in
set_option maxRecDepth 100000 in
theorem nodesW_any (l : List Tok) (A : Option Addr) (c : Nat) (w : World) (hG : Glob w) (hR : RdT w A c l) (hm : l.length ≤ 1048576) (hs : ∀ x, x ∈ l → x.sm) :
    Calls Tryz.prog 66 #[.slice A l.length c] w (PRet (nodesP l) w) := by
  obtain ⟨o, ho⟩ : ∃ o, nodesP l = o := ⟨_, rfl⟩
  rw [ho]
  rw [nodesP_eq] at ho
  have h1 := check_any A c l w hG hR hm hs
  obtain ⟨a, ha⟩ := hG.2
  have hE : GE w a := ha
  have HE := Aside0.mk hE
  have HR := Aside0.mk hR
  have HS := Aside0.mk hs
  have HG := Aside0.mk hG
  clear ha hE hR hs hG
  cases ht : toksP l with
  | false =>
    rw [ht, if_pos rfl] at ho
    subst ho
    rw [ht] at h1
    clear ht
    go_enter Tryz.func66, Tryz.ntmps66
    go_wp2_with fail
    refine h1.mono ?_
    rintro e W1 ⟨rfl, hb⟩
    have HB := Aside0.mk hb
    clear hb h1
    go_wp2
    go_ret2
    exact ⟨HB.out, rfl⟩
  | true =>
    rw [ht, if_neg (by simp)] at ho
    rw [ht] at h1
    clear ht
    have HO := Aside0.mk ho
    clear ho
    go_enter Tryz.func66, Tryz.ntmps66
    go_wp2_with fail
    refine h1.mono ?_
    rintro e W1 ⟨rfl, hb⟩
    have HB := Aside0.mk hb
    clear hb h1
    have HP : Aside0 (PS w (W1.alloc (.cells #[.slice A l.length c] 141)) W1.heap.size l) := ⟨A, c, blk_new W1 _, HB.out.size, HR.out, below_alloc HB.out _⟩
    have hge1 : w.heap.size ≤ W1.heap.size := HB.out.size
    have HA := Aside0.mk (all_any a w HE.out l _ W1.heap.size hm HS.out HP.out)
    go_wp2_with fail
    refine HA.out.mono ?_
    obtain ⟨g, hg⟩ : ∃ g, W1.heap.size = g := ⟨_, rfl⟩
    rw [hg] at HP hge1 ⊢
    clear hg HA
    generalize W1.alloc (.cells #[.slice A l.length c] 141) = W2 at HP ⊢
    have hlt : g < W2.heap.size := HP.out.lt
    have HB2 := Aside0.mk HP.out.below
    cases hal : allP l with
    | none =>
      rw [hal] at HO
      have HO2 : Except.error 7 = o := HO.out
      subst HO2
      rintro e W3 ⟨hk, v, rfl⟩
      have HB3 := Aside0.mk (HB2.out.trans (hk.below (fun z h => by omega) HB2.out.size))
      have hge := HE.out.below HB3.out
      unfold GE at hge
      clear hk
      go_wp2_with fail
      refine (is_same a _).mono ?_
      rintro e w' ⟨rfl, rfl⟩
      go_wp2
      go_ret2
      exact ⟨HB3.out, rfl⟩
    | some nd =>
      rw [hal] at HO
      have HO2 : (if nd.fitsP = true then Except.ok nd else Except.error 11) = o := HO.out
      have hpp : parse l = some (nd, []) := by
        unfold allP at hal
        cases hp : parse l with
        | none => rw [hp] at hal; cases hal
        | some z =>
          obtain ⟨x, r⟩ := z
          rw [hp] at hal
          simp only at hal
          split at hal
          · rename_i hr; cases hal; rw [hr]
          · cases hal
      have hsm := (parse_sm hpp HS.out hm).1
      have hcn := parse_cnt hpp
      simp only [List.length_nil] at hcn
      have hlc := len_cnt nd
      clear hpp hal HO
      rintro e W3 ⟨hk, A3, c3, rfl, hR3⟩
      have HB3 := Aside0.mk (HB2.out.trans (hk.below (fun z h => by omega) HB2.out.size))
      have hge := HE.out.below HB3.out
      unfold GE at hge
      have HR3 := Aside0.mk (Kd.R_mono (Kd.R_lower hR3 HB2.out.size) (fun z hz => Nat.le_trans HB2.out.size hz))
      have hf := fits_any nd A3 c3 W3 hsm (Rd_of_R hR3) (by omega) (by omega)
      clear hk hR3 hsm
      go_wp2_with fail
      refine (is_nil a _).mono ?_
      rintro e w' ⟨rfl, rfl⟩
      cases hfp : nd.fitsP with
      | false =>
        rw [hfp] at hf HO2
        have HO3 : Except.error 11 = o := HO2
        subst HO3
        clear HO2 hfp
        go_wp2_with fail
        refine hf.mono ?_
        rintro e W4 ⟨rfl, hb⟩
        have HB4 := Aside0.mk (below_step HB3.out hb)
        clear hb hf
        go_wp2
        go_ret2
        exact ⟨HB4.out, rfl⟩
      | true =>
        rw [hfp] at hf HO2
        have HO3 : Except.ok nd = o := HO2
        subst HO3
        clear HO2 hfp
        go_wp2_with fail
        refine hf.mono ?_
        rintro e W4 ⟨rfl, hb⟩
        have HB4 := Aside0.mk (below_step HB3.out hb)
        have HR4 := Aside0.mk (Kd.R_below HR3.out hb)
        clear hb hf
        go_wp2
        go_ret2
        exact ⟨HB4.out, _, _, rfl, HR4.out, Rd_of_R HR4.out⟩
theorem tokensS_long (s : S) (hs : 1024 < s.length) (w : World) (h2 : s.length ≤ 1048576) :
    Calls Tryz.prog 65 #[.string (bs s)] w fun e w' => e = .returned (.tuple #[.slice none 0 0, .int .i64 12]) ∧ w' = w := by
  have hl1 : decide ((1024 : Int) < (((bs s).size : Nat) : Int)) = true := by rw [decide_eq_true_eq, bs_size]; omega
  have hl2 : decide (1024 < (bs s).size) = true := by rw [decide_eq_true_eq, bs_size]; omega
  go_enter Tryz.func65, Tryz.ntmps65
  go_wp2
  go_ret2
  exact ⟨rfl, rfl⟩
set_option maxRecDepth 100000 in
theorem parse_any (s : S) (hs : s.length ≤ 1048576) (w : World) (hG : Glob w) : Calls Tryz.prog 36 #[.string (bs s)] w (PRet (parseS s) w) := by
  unfold parseS
  by_cases hl : 1024 < s.length
  · rw [if_pos hl]
    have h := tokensS_long s hl w hs
    go_enter Tryz.func36, Tryz.ntmps36
    go_wp2_with fail
    refine h.mono ?_
    rintro e W1 ⟨rfl, rfl⟩
    go_wp2
    go_ret2
    exact ⟨Below.refl _ _, rfl⟩
  · rw [if_neg hl]
    have h := tokensS_any s (by omega) w hG
    have hsm := toksS_sm (s.length + 1) s
    cases ht : toksS (s.length + 1) s with
    | none =>
      rw [ht] at h
      clear hsm ht
      go_enter Tryz.func36, Tryz.ntmps36
      go_wp2_with fail
      refine h.mono ?_
      rintro e W1 ⟨rfl, hb⟩
      have HB := Aside0.mk hb
      clear hb h
      go_wp2
      go_ret2
      exact ⟨HB.out, rfl⟩
    | some l =>
      rw [ht] at h
      obtain ⟨h1, h2⟩ := hsm l ht (by omega)
      have HS := Aside0.mk h1
      have HG := Aside0.mk hG
      clear hsm ht h1 hG
      obtain ⟨o, ho⟩ : ∃ o, nodesP l = o := ⟨_, rfl⟩
      simp only [ho]
      have HO := Aside0.mk ho
      clear ho
      go_enter Tryz.func36, Tryz.ntmps36
      go_wp2_with fail
      refine h.mono ?_
      rintro e W1 ⟨⟨v, rfl, hR⟩, hb⟩
      obtain ⟨A, c, rfl, hRT⟩ := rdT_of_R hR
      have hn := nodesW_any l A c W1 (HG.out.below hb) hRT (by omega) HS.out
      have HB := Aside0.mk hb
      clear hb h hR hRT
      rw [HO.out] at hn
      cases o with
      | error k =>
        go_wp2_with fail
        refine hn.mono ?_
        rintro e W2 ⟨hb2, rfl⟩
        have HB2 := Aside0.mk (below_step HB.out hb2)
        clear hb2 hn
        go_wp2
        go_ret2
        exact ⟨HB2.out, rfl⟩
      | ok nd =>
        go_wp2_with fail
        refine hn.mono ?_
        rintro e W2 ⟨hb2, A2, c2, rfl, hR2, hRd⟩
        have HB2 := Aside0.mk (below_step HB.out hb2)
        have HR2 := Aside0.mk (Kd.R_mono (Kd.R_lower hR2 HB.out.size) (fun z hz => Nat.le_trans HB.out.size hz))
        have HRd := Aside0.mk hRd
        clear hb2 hn hR2 hRd
        go_wp2
        go_ret2
        exact ⟨HB2.out, _, _, rfl, HR2.out, HRd.out⟩
end Go.Proofs.YtniibpndgcndbaaGreatDoor.Tpl
namespace Go.Proofs.YtniibpndgcndbaaGreatDoor.Tpl
open Go.RowKit Go.Proofs Go.Shelf Go.Proofs.YtniibpndgcndbaaGreatDoor.PB Go.Proofs.YtniibpndgcndbaaGreatDoor.Short Go.Proofs.YtniibpndgcndbaaGreatDoorW.PrintWords Go.Proofs.YtniibpndgcndbaaGreatDoorW.PrintLast Go.Proofs.YtniibpndgcndbaaGreatDoorW.PrintMore Nodes
attribute [local go_sem] Oper.semAt_some Lk.enc max2_int min2_int max_two min_two
def OnAt (g : Nat) (op : Nat → Look → Nat) : Prop := ∀ (m : Nat) (x : Lk) (W : World), m ≤ 1152921504606846976 → x.t.length ≤ 1048576 → x.lv ≤ 2000000 → Calls Tryz.prog g #[.int .i64 m, x.enc] W fun e w' => e = .returned (.int .i64 (op m x.er)) ∧ Below W.heap.size W w'
theorem on_depth : OnAt 45 (fun n x => max n x.lv) := by
  rintro m ⟨k, t, A2, c2, p, A3, n3, c3, A4, n4, c4, lv, wi⟩ W hm ht hlv
  simp only at hlv
  by_cases h : m < lv
  · rw [show (fun (n : Nat) (x : Look) => max n x.lv) m (Lk.er ⟨k, t, A2, c2, p, A3, n3, c3, A4, n4, c4, lv, wi⟩) = lv from by simp only [Lk.er]; omega]
    go_enter Tryz.func45, Tryz.ntmps45
    go_wp2
    all_goals go_ret
    all_goals first | exact ⟨by simp, belS (Below.refl _ _)⟩ | (exfalso; omega)
  · rw [show (fun (n : Nat) (x : Look) => max n x.lv) m (Lk.er ⟨k, t, A2, c2, p, A3, n3, c3, A4, n4, c4, lv, wi⟩) = m from by simp only [Lk.er]; omega]
    go_enter Tryz.func45, Tryz.ntmps45
    go_wp2
    all_goals go_ret
    all_goals first | exact ⟨by simp, belS (Below.refl _ _)⟩ | (exfalso; omega)
theorem on_count : OnAt 47 (fun n _ => n + 1) := by
  rintro m ⟨k, t, A2, c2, p, A3, n3, c3, A4, n4, c4, lv, wi⟩ W hm ht hlv
  go_enter Tryz.func47, Tryz.ntmps47
  go_wp2
  go_ret
  exact ⟨by simp, belS (Below.refl _ _)⟩
theorem on_plain : OnAt 49 (fun n x => n + x.t.length) := by
  rintro m ⟨k, t, A2, c2, p, A3, n3, c3, A4, n4, c4, lv, wi⟩ W hm ht hlv
  simp only at ht
  have hs := bs_size t
  have hw : wrap64 ((m : Int) + t.length) = m + t.length := by unfold wrap64; omega
  go_enter Tryz.func49, Tryz.ntmps49
  go_wp2
  go_ret
  exact ⟨by simp [Lk.er], belS (Below.refl _ _)⟩
theorem fold_le {w0 : World} (op : Nat → Look → Nat) (hop : ∀ m x, x.t.length ≤ 1048576 → x.lv ≤ 2000000 → op m x ≤ m + 2000000) (l : List (GLk w0)) : ∀ a, (ers l).foldl op a ≤ a + l.length * 2000000 := by
  induction l with
  | nil => intro a; simp [ers]
  | cons x r ih =>
    intro a
    have h1 := hop a x.1.er x.2.2.1 x.2.2.2
    have h2 := ih (op a x.1.er)
    show (ers r).foldl op (op a x.1.er) ≤ _
    rw [List.length_cons]
    omega
def foldP (op : Nat → Look → Nat) (l : Nodes) : Nat := (flat l 1 false).foldl op 0
set_option maxRecDepth 100000 in
set_option maxHeartbeats 4000000 in
theorem folded_any (g : Nat) (op : Nat → Look → Nat) (eg : ∀ args w, (callFunc g args).run Tryz.prog w = .ok (.enter g args) w) (hon : OnAt g op) (hop : ∀ m x, x.t.length ≤ 1048576 → x.lv ≤ 2000000 → op m x ≤ m + 2000000) (l : Nodes) (A : Option Addr) (c : Nat) (w : World) (hG : Glob w) (hs : l.sm) (hR : Rd w A c l) (hl : l.len ≤ 1048576) (hc : l.cnt ≤ 1048576) :
    Calls Tryz.prog 44 #[.slice A l.len c, .func (.func g) #[] #[]] w fun e w' => e = .returned (.tuple #[.int .i64 (if l.chk = true then (foldP op l : Int) else 0), .int .i64 (if l.chk = true then 0 else 2)]) ∧ Below w.heap.size w w' := by
  have hA := chk_any l A c (w.alloc (.cells #[.func (.func g) #[] #[]] 69)) (hG.below (below_alloc (Below.refl _ _) _)) hs (hR.below (below_alloc (Below.refl _ _) _)) hl hc
  cases hch : l.chk with
  | false =>
    rw [hch] at hA
    simp only [Bool.false_eq_true, if_false]
    go_enter Tryz.func44, Tryz.ntmps44
    go_wp2_with fail
    refine hA.mono ?_
    rintro e w1 ⟨rfl, hb⟩
    have hb' := (below_alloc (Below.refl w.heap.size w) (.cells #[.func (.func g) #[] #[]] 69)).trans (hb.mono (by simp))
    clear hb hA hR
    go_wp2
    go_ret2
    exact ⟨rfl, hb'⟩
  | true =>
    rw [hch] at hA
    obtain ⟨r, hr⟩ : ∃ r : Nat, foldP op l = r := ⟨_, rfl⟩
    simp only [if_true, hr]
    refine (callsIn_wide (n := 8)).1 ?_
    refine callsIn_of_wp_marks Tryz.func44 rfl trivial ?_ rfl
    simp only [Tryz.ntmps44, List.size_toArray, List.length_cons, List.length_nil, Nat.reduceAdd, Nat.reduceSub, Array.replicate_succ, Array.replicate_zero, List.push_toArray, List.append_toArray, List.nil_append, List.cons_append]
    gi_wp2_with fail
    refine ⟨trivial, ?_⟩
    refine (callsIn_wide.2 hA).mono ?_
    rintro e w1 ⟨rfl, hb⟩
    have B0 : Boxed w1 w.heap.size 69 (.func (.func g) #[] #[]) := (hb.block _ (by simp)).trans (Boxed.new w _ _)
    have hb' := (below_alloc (Below.refl w.heap.size w) (.cells #[.func (.func g) #[] #[]] 69)).trans (hb.mono (by simp))
    clear hb hA
    gi_wp2_with fail
    refine ⟨trivial, ?_⟩
    refine (all_in Fence.wide _ trivial rfl A l.len c _).mono ?_
    rintro e W0 ⟨rfl, hW0⟩
    have hbN := Boxed.new w1 3 (.int .i64 0)
    have hsz2 : w.heap.size < w1.heap.size := B0.lt
    rw [World.size_alloc]
    have BT : Boxed W0 (w1.heap.size + 1) 22 (.slice A l.len c) := by rw [hW0]; have := Boxed.new (w1.alloc (.cells #[.int .i64 0] 3)) 22 (.slice A l.len c); rwa [World.size_alloc] at this
    have BN : Boxed W0 w1.heap.size 3 (.int .i64 0) := by rw [hW0]; exact hbN.alloc _
    have BO : Boxed W0 w.heap.size 69 (.func (.func g) #[] #[]) := by rw [hW0]; exact (B0.alloc _).alloc _
    have hB0 : Below w.heap.size w W0 := by rw [hW0]; exact (hb'.alloc hb'.size _).alloc (by rw [World.size_alloc]; have := hb'.size; omega) _
    have hsz : w1.heap.size + 1 < W0.heap.size := BT.lt
    clear hW0 B0 hb' hbN
    gi_wp2_with fail
    generalize w1.heap.size = nb at *
    refine wpIn_rangeFunc_ownH rfl (by decide) (gf := 69) (lb := #[.pointer (some ⟨nb + 1, 0, none⟩)]) rfl trivial (enters_of Tryz.func69 (by kernel_rfl) rfl)
      (all_stops Fence.wide rfl _ trivial trivial rfl w (nb + 1) A c l hc hl hs hR W0 hB0 BT.cell) KpN.trans (KpN.b (by omega)) (Below.refl _ _) (fun _ => rfl)
      (fun pre W => (Boxed W nb 3 (.int .i64 ((ers pre).foldl op 0 : Nat)) ∧ Boxed W w.heap.size 69 (.func (.func g) #[] #[])) ∧ Below w.heap.size w W)
      (fun _ _ _ => False)
      (OwnFrom.and (OwnFrom.and (Own.from (boxed_own _ _ _) _) (Own.from (boxed_own _ _ (fun _ => _)) _)) (ownFrom_below (Nat.le_refl _) (by omega)))
      (fun _ _ _ _ _ hs _ _ => hs)
      ⟨⟨BN, BO⟩, hB0⟩
      (fun x a' W => ∃ Bx, nb < Bx ∧ W.heap[Bx]? = some (.cells #[.int .u8 x.1.k, .string (bs x.1.t), .slice x.1.A2 x.1.p.length x.1.c2, .slice x.1.A3 x.1.n3 x.1.c3, .slice x.1.A4 x.1.n4 x.1.c4, .int .i64 x.1.lv, .bool x.1.wi] 64 (0, 0)) ∧
        a' = { tmps := #[.slice A l.len c, .func (.func g) #[] #[], undef, .pointer (some ⟨w.heap.size, 0, none⟩), .int .i64 0, .int .i64 0, .int .i64 0, .pointer (some ⟨nb, 0, none⟩), .pointer (some ⟨Bx, 0, none⟩), .slice A l.len c, .int .i64 0, .int .i64 0, .bool false, undef, .slice A l.len c, .func (.func 69) #[] #[.pointer (some ⟨nb + 1, 0, none⟩)], .agg #[.int .u8 x.1.k, .string (bs x.1.t), .slice x.1.A2 x.1.p.length x.1.c2, .slice x.1.A3 x.1.n3 x.1.c3, .slice x.1.A4 x.1.n4 x.1.c4, .int .i64 x.1.lv, .bool x.1.wi], undef, undef, undef, undef, undef], defers := [] })
      (fun x a' _ X Y row hs hg hr => by obtain ⟨Bx, h1, h2, h3⟩ := hs; exact ⟨Bx, h1, blk_grown h2 hg (fun e => by obtain ⟨o, ho, hcl⟩ := (hr Bx e.symm).2; rw [h2] at ho; cases ho; cases hcl), h3⟩)
      ?assign ?body ?done ?stop
    case assign =>
      rintro lp pre x W K ⟨⟨b1, b2⟩, b3⟩ hK
      obtain ⟨⟨k, t, A2, c2, p, A3, n3, c3, A4, n4, c4, lv, wi⟩, hx⟩ := x
      gi_wp2
      exact hK _ _ ((KeepsOthers.alloc _ _).from _) ((KpN.refl _ W).alloc b3.size _) ⟨⟨b1.alloc _, b2.alloc _⟩, b3.alloc b3.size _⟩ ⟨W.heap.size, b1.lt, World.alloc_heap_new W _, rfl⟩
    case body =>
      rintro lp pre x a' W hl2 ⟨rr, hrr⟩ ⟨⟨b1, b2⟩, b3⟩ ⟨Bx, hBx, bX, rfl⟩ hlt
      have hfl := fold_le op hop pre 0
      have hO := hon ((ers pre).foldl op 0) x.1 W (by omega) x.2.2.1 x.2.2.2
      have hX : (ers (pre ++ [x])).foldl op 0 = op ((ers pre).foldl op 0) x.1.er := by rw [ers_app, List.foldl_append]; rfl
      obtain ⟨⟨k, t, A2, c2, p, A3, n3, c3, A4, n4, c4, lv, wi⟩, hx⟩ := x
      simp only at bX hx
      obtain ⟨m0, m1, m2, m3, m4, m5, m6, f0, f1, f2, f3, f4, f5, f6⟩ := cells_7 bX
      have z0 := b1.cell
      have z1 := b1.frozen
      have z2 := b2.cell
      have z3 := b2.frozen
      generalize (ers pre).foldl op 0 = a0 at *
      gi_wp2_with fail
      refine ⟨trivial, ?_⟩
      refine (CallsIn.inRound lp (callsIn_wide.2 hO)).mono ?_
      rintro e w2 ⟨rfl, hb2⟩
      have c1 : Boxed w2 nb 3 (.int .i64 a0) := (hb2.block _ b1.lt).trans b1
      have c2' : Boxed w2 w.heap.size 69 (.func (.func g) #[] #[]) := (hb2.block _ b2.lt).trans b2
      have hle := b3.size
      clear z0 z1 z2 z3 m0 m1 m2 m3 m4 m5 m6 f0 f1 f2 f3 f4 f5 f6 hO
      have z0 := c1.cell
      have z1 := c1.frozen
      gi_wp2
      exact ⟨((KeepsOthers.of_below hb2).trans (KeepsOthers.setCell _ _ _)).from _, (KpN.of_below hb2 hle).set c1 (by decide) (by omega) _, ⟨by rw [hX]; exact c1.set _, c2'.other (by omega) _⟩, (b3.trans (hb2.mono hle)).setCell (p := ⟨nb, 0, none⟩) (by show w.heap.size ≤ nb; omega) _⟩
    case done =>
      rintro D ys W hD hys ⟨⟨b1, b2⟩, b3⟩ hK
      have z0 := b1.cell
      have z1 := b1.frozen
      have hrf : (ers ys).foldl op 0 = r := by rw [hys]; exact hr
      rw [hrf] at z0
      gi_wp2
      refine ⟨by simp, .inl ⟨_, _, rfl, run_takeDeferred hK, ?_⟩⟩
      exact ⟨_, results_tmp2 rfl _ _ _, rfl, b3.trans (belowK_b (w := w) (Nat.le_refl _) W D _ _ (by omega) hK rfl rfl)⟩
    case stop =>
      rintro D cd pre W _ _ h _
      exact h.elim
end Go.Proofs.YtniibpndgcndbaaGreatDoor.Tpl
namespace Go.Proofs.YtniibpndgcndbaaGreatDoor.Tpl
open Go.RowKit Go.Proofs Go.Shelf Go.Proofs.YtniibpndgcndbaaGreatDoor.PB Go.Proofs.YtniibpndgcndbaaGreatDoor.Short Go.Proofs.YtniibpndgcndbaaGreatDoorW.PrintWords Go.Proofs.YtniibpndgcndbaaGreatDoorW.PrintLast Go.Proofs.YtniibpndgcndbaaGreatDoorW.PrintMore Nodes
theorem fold_cnt (l : Nodes) : foldP (fun n _ => n + 1) l = l.cnt := by
  unfold foldP
  have : ∀ (xs : List Look) a, xs.foldl (fun n _ => n + 1) a = a + xs.length := by
    intro xs
    induction xs with
    | nil => intro a; rfl
    | cons x r ih => intro a; rw [List.foldl_cons, ih, List.length_cons]; omega
  rw [this, flat_len]; omega
theorem depth_any (l : Nodes) (A : Option Addr) (c : Nat) (w : World) (hG : Glob w) (hs : l.sm) (hR : Rd w A c l) (hl : l.len ≤ 1048576) (hc : l.cnt ≤ 1048576) :
    Calls Tryz.prog 14 #[.slice A l.len c] w fun e w' => e = .returned (.tuple #[.int .i64 (if l.chk = true then (l.depthP : Int) else 0), .int .i64 (if l.chk = true then 0 else 2)]) ∧ Below w.heap.size w w' := by
  have h := folded_any 45 (fun n x => max n x.lv) (enters_of Tryz.func45 (by kernel_rfl) rfl) on_depth (fun m x _ h2 => by omega) l A c w hG hs hR hl hc
  rw [show foldP (fun n x => max n x.lv) l = l.depthP from depth_flat l] at h
  generalize (if l.chk = true then (l.depthP : Int) else 0) = r at *
  generalize (if l.chk = true then (0 : Int) else 2) = r2 at *
  clear hG hs hR
  go_enter Tryz.func14, Tryz.ntmps14
  go_wp2_with fail
  refine h.mono ?_
  rintro e w1 ⟨rfl, hb⟩
  go_wp2
  go_ret2
  exact ⟨rfl, hb⟩
theorem count_any (l : Nodes) (A : Option Addr) (c : Nat) (w : World) (hG : Glob w) (hs : l.sm) (hR : Rd w A c l) (hl : l.len ≤ 1048576) (hc : l.cnt ≤ 1048576) :
    Calls Tryz.prog 16 #[.slice A l.len c] w fun e w' => e = .returned (.tuple #[.int .i64 (if l.chk = true then (l.cnt : Int) else 0), .int .i64 (if l.chk = true then 0 else 2)]) ∧ Below w.heap.size w w' := by
  have h := folded_any 47 (fun n _ => n + 1) (enters_of Tryz.func47 (by kernel_rfl) rfl) on_count (fun m x _ h2 => by omega) l A c w hG hs hR hl hc
  rw [fold_cnt l] at h
  generalize (if l.chk = true then (l.cnt : Int) else 0) = r at *
  generalize (if l.chk = true then (0 : Int) else 2) = r2 at *
  clear hG hs hR
  go_enter Tryz.func16, Tryz.ntmps16
  go_wp2_with fail
  refine h.mono ?_
  rintro e w1 ⟨rfl, hb⟩
  go_wp2
  go_ret2
  exact ⟨rfl, hb⟩
theorem plain_any (l : Nodes) (A : Option Addr) (c : Nat) (w : World) (hG : Glob w) (hs : l.sm) (hR : Rd w A c l) (hl : l.len ≤ 1048576) (hc : l.cnt ≤ 1048576) :
    Calls Tryz.prog 18 #[.slice A l.len c] w fun e w' => e = .returned (.tuple #[.int .i64 (if l.chk = true then (l.plainP : Int) else 0), .int .i64 (if l.chk = true then 0 else 2)]) ∧ Below w.heap.size w w' := by
  have h := folded_any 49 (fun n x => n + x.t.length) (enters_of Tryz.func49 (by kernel_rfl) rfl) on_plain (fun m x h1 _ => by omega) l A c w hG hs hR hl hc
  rw [show foldP (fun n x => n + x.t.length) l = l.plainP from by unfold foldP; rw [plain_flat]; omega] at h
  generalize (if l.chk = true then (l.plainP : Int) else 0) = r at *
  generalize (if l.chk = true then (0 : Int) else 2) = r2 at *
  clear hG hs hR
  go_enter Tryz.func18, Tryz.ntmps18
  go_wp2_with fail
  refine h.mono ?_
  rintro e w1 ⟨rfl, hb⟩
  go_wp2
  go_ret2
  exact ⟨rfl, hb⟩
end Go.Proofs.YtniibpndgcndbaaGreatDoor.Tpl
namespace Go.Proofs.YtniibpndgcndbaaGreatDoor.Tpl
open Go.RowKit Go.Proofs Go.Proofs.YtniibpndgcndbaaGreatDoor.PB Go.Proofs.YtniibpndgcndbaaGreatDoor.Short Go.Proofs.YtniibpndgcndbaaGreatDoorW.PrintWords Go.Proofs.YtniibpndgcndbaaGreatDoorW.PrintLast Go.Proofs.YtniibpndgcndbaaGreatDoorW.PrintMore Nodes
def src1 : S := [123, 123, 101, 97, 99, 104, 32, 105, 116, 101, 109, 115, 125, 125, 123, 123, 116, 104, 105, 115, 46, 97, 125, 125, 123, 123, 98, 125, 125, 33, 123, 123, 101, 110, 100, 125, 125]
def src2 : S := [123, 123, 105, 102, 32, 116, 104, 105, 115, 125, 125, 123, 123, 101, 110, 100, 125, 125]
def sItems : S := [105, 116, 101, 109, 115]
def sB : S := [98]
def sC : S := [99]
def nd1 : Nodes := cons 5 [] [sItems] (cons 2 [] [thisS, [97]] nil nil (cons 2 [] [sB] nil nil (cons 1 [33] [] nil nil nil))) nil nil
def nd2 : Nodes := cons 3 [] [thisS] nil nil nil
def nd3 : Nodes := cons 0 [] [] nil nil nil
theorem parse1 : parseS src1 = .ok nd1 := by kernel_rfl
theorem parse2 : parseS src2 = .ok nd2 := by kernel_rfl
theorem nd1_chk : nd1.chk = true := by kernel_rfl
theorem nd1_roots : rootsOf nd1 = [sB, sItems] := by kernel_rfl
theorem nd1_cnt : nd1.cnt = 4 := by kernel_rfl
theorem nd1_depth : nd1.depthP = 2 := by kernel_rfl
theorem nd1_plain : nd1.plainP = 1 := by kernel_rfl
theorem nd1_this : thisP nd1 = 0 := by kernel_rfl
theorem nd2_this : thisP nd2 = 13 := by kernel_rfl
theorem nd1_only1 : onlyP nd1 [sItems] = 13 := by kernel_rfl
theorem nd1_only3 : onlyP nd1 [sItems, sB, sC] = 0 := by kernel_rfl
theorem nd3_only : onlyP nd3 [] = 2 := by kernel_rfl
theorem nd1_sm : nd1.sm := by simp [nd1, sm, sItems, sB, thisS, len]
theorem nd2_sm : nd2.sm := by simp [nd2, sm, thisS, len]
theorem nd3_sm : nd3.sm := by simp [nd3, sm, len]
theorem same_any (A : Option Addr) (c : Nat) (p : List S) (B : Option Addr) (d : Nat) (q : List S) (w : World) (hp : RdS w A c p) (hq : RdS w B d q) (hl : p.length ≤ 1048576) :
    Calls Tryz.prog 21 #[.slice A p.length c, .slice B q.length d] w fun e w' => e = .returned (.bool (decide (p = q))) ∧ Below w.heap.size w w' := by
  obtain ⟨k, hk⟩ := same_f p q hl
  have h := bellmanref01_SameTexts.calls k A c (p.map bs) B d (q.map bs) _ w (by rw [List.length_map]; exact hp.1) (by rw [List.length_map]; exact hp.2) (by rw [List.length_map]; exact hq.1) (by rw [List.length_map]; exact hq.2) hk
  rw [List.length_map, List.length_map] at h
  refine h.mono ?_
  rintro e w' ⟨rfl, hd⟩
  exact ⟨rfl, hd.below⟩
theorem lit_S (l : List S) (W : World) (hl : l.length ≤ 1048576) : RdS (W.alloc (.cells ((l.map bs).map Value.string).toArray 9)) (some ⟨W.heap.size, 0, none⟩) l.length l := by
  have h := lit_C (l.map bs) W (by rw [List.length_map]; exact hl)
  rw [List.length_map] at h
  exact ⟨h, Nat.le_refl _⟩
theorem nd3_rd (w : World) : Rd (w.alloc (.cells #[.int .u8 0, .string ⟨#[]⟩, .slice none 0 0, .slice none 0 0, .slice none 0 0] 37)) (some ⟨w.heap.size, 0, none⟩) 1 nd3 := by
  refine ⟨⟨rfl, by decide, fun _ => ⟨_, rfl, fun i x hx => ?_⟩⟩, by decide⟩
  have hi : i = 0 := by
    have := (List.getElem?_eq_some_iff.1 hx).1
    simp [nd3, of] at this; exact this
  subst hi
  obtain rfl : (⟨0, bs [], [], [], []⟩ : SN) = x := by simpa [nd3, of] using hx
  refine ⟨_, rfl, k37_mk _ (⟨0, bs [], [], [], []⟩ : SN) (A2 := none) (c2 := 0) (Nat.le_refl _) (Kd.C_nil _ _) (A3 := none) (c3 := 0) (Nat.le_refl _) (Kd.C_nil _ _) (A4 := none) (c4 := 0) (Nat.le_refl _) (Kd.C_nil _ _), fun j v hv => ?_⟩
  have BK := blk_new w (.cells #[.int .u8 0, .string ⟨#[]⟩, .slice none 0 0, .slice none 0 0, .slice none 0 0] 37)
  have hc := blk_cell BK j
  have e : (Addr.add ⟨w.heap.size, 0, none⟩ (0 * kN.sz + j)) = ⟨w.heap.size, j, none⟩ := by rw [Addr.add_lit]; congr 1; omega
  show World.cell? _ (Addr.add ⟨w.heap.size, 0, none⟩ (0 * kN.sz + j)) = some v
  rw [e, hc, ← hv]
  simp [bs]
set_option maxHeartbeats 4000000 in
set_option maxRecDepth 100000 in
theorem lives_any (w : World) (hG : Glob w) : Calls Tryz.prog 20 #[] w fun e w' => e = .returned (.bool true) ∧ Below w.heap.size w w' := by
  have HG := Aside0.mk hG
  have H1 := Aside0.mk (fun W (hW : Below w.heap.size w W) => parse_any src1 (by decide) W (HG.out.below hW))
  have H2 := Aside0.mk (fun W (hW : Below w.heap.size w W) => parse_any src2 (by decide) W (HG.out.below hW))
  rw [parse1] at H1
  rw [parse2] at H2
  clear hG
  go_enter Tryz.func20, Tryz.ntmps20
  go_wp2_with fail
  refine (H1.out w (Below.refl _ _)).mono ?_
  rintro e W1 ⟨hb, A1, c1, rfl, _, hR⟩
  have HB1 := Aside0.mk hb
  have HR1 := Aside0.mk hR
  clear hb hR
  go_wp2_with fail
  refine (roots2_any nd1 A1 c1 W1 (HG.out.below HB1.out) nd1_sm HR1.out (by decide) (by decide)).mono ?_
  rintro e W2 ⟨A2, c2, rfl, hS, hb⟩
  rw [nd1_roots] at hS ⊢
  rw [nd1_chk]
  have HB2 := Aside0.mk (below_step HB1.out hb)
  have HR2 := Aside0.mk (HR1.out.below hb)
  have HS2 := Aside0.mk hS
  clear hb hS
  simp only [if_true]
  go_wp2_with fail
  refine (count_any nd1 A1 c1 W2 (HG.out.below HB2.out) nd1_sm HR2.out (by decide) (by decide)).mono ?_
  rintro e W3 ⟨rfl, hb⟩
  rw [nd1_chk, nd1_cnt]
  have HB3 := Aside0.mk (below_step HB2.out hb)
  have HR3 := Aside0.mk (HR2.out.below hb)
  have HS3 := Aside0.mk (HS2.out.below hb)
  clear hb
  simp only [if_true]
  go_wp2_with fail
  refine (depth_any nd1 A1 c1 W3 (HG.out.below HB3.out) nd1_sm HR3.out (by decide) (by decide)).mono ?_
  rintro e W4 ⟨rfl, hb⟩
  rw [nd1_chk, nd1_depth]
  have HB4 := Aside0.mk (below_step HB3.out hb)
  have HR4 := Aside0.mk (HR3.out.below hb)
  have HS4 := Aside0.mk (HS3.out.below hb)
  clear hb
  simp only [if_true]
  go_wp2_with fail
  refine (plain_any nd1 A1 c1 W4 (HG.out.below HB4.out) nd1_sm HR4.out (by decide) (by decide)).mono ?_
  rintro e W5 ⟨rfl, hb⟩
  rw [nd1_chk, nd1_plain]
  have HB5 := Aside0.mk (below_step HB4.out hb)
  have HR5 := Aside0.mk (HR4.out.below hb)
  have HS5 := Aside0.mk (HS4.out.below hb)
  clear hb
  simp only [if_true]
  go_wp2_with fail
  refine (H2.out W5 HB5.out).mono ?_
  rintro e W6 ⟨hb, A3, c3, rfl, _, hR⟩
  have HB6 := Aside0.mk (below_step HB5.out hb)
  have HR6 := Aside0.mk (HR5.out.below hb)
  have HS6 := Aside0.mk (HS5.out.below hb)
  have HT6 := Aside0.mk hR
  clear hb hR
  go_wp2_with fail
  have HB6a := Aside0.mk (below_alloc HB6.out (.cells ((([sB, sItems] : List S).map bs).map Value.string).toArray 9))
  have HR6a := Aside0.mk (HR6.out.below (below_alloc (Below.refl W6.heap.size W6) (.cells ((([sB, sItems] : List S).map bs).map Value.string).toArray 9)))
  have HT6a := Aside0.mk (HT6.out.below (below_alloc (Below.refl W6.heap.size W6) (.cells ((([sB, sItems] : List S).map bs).map Value.string).toArray 9)))
  refine (same_any A2 c2 [sB, sItems] (some ⟨W6.heap.size, 0, none⟩) 2 [sB, sItems] _ (HS6.out.below (below_alloc (Below.refl _ _) _)) (lit_S [sB, sItems] W6 (by decide)) (by decide)).mono ?_
  rintro e W7 ⟨rfl, hb⟩
  rw [decide_eq_true (show [sB, sItems] = [sB, sItems] from rfl)]
  have HB7 := Aside0.mk (below_step HB6a.out hb)
  have HR7 := Aside0.mk (HR6a.out.below hb)
  have HT7 := Aside0.mk (HT6a.out.below hb)
  clear hb
  go_wp2_with fail
  refine (this_any nd2 A3 c3 W7 (HG.out.below HB7.out) nd2_sm HT7.out (by decide) (by decide)).mono ?_
  rintro e W8 ⟨rfl, hb⟩
  rw [nd2_this]
  have HB8 := Aside0.mk (below_step HB7.out hb)
  have HR8 := Aside0.mk (HR7.out.below hb)
  have HT8 := Aside0.mk (HT7.out.below hb)
  clear hb
  go_wp2_with fail
  refine (this_any nd1 A1 c1 W8 (HG.out.below HB8.out) nd1_sm HR8.out (by decide) (by decide)).mono ?_
  rintro e W9 ⟨rfl, hb⟩
  rw [nd1_this]
  have HB9 := Aside0.mk (below_step HB8.out hb)
  have HR9 := Aside0.mk (HR8.out.below hb)
  have HT9 := Aside0.mk (HT8.out.below hb)
  clear hb
  go_wp2_with fail
  have HB9a := Aside0.mk (below_alloc HB9.out (.cells ((([sItems] : List S).map bs).map Value.string).toArray 9))
  have HR9a := Aside0.mk (HR9.out.below (below_alloc (Below.refl W9.heap.size W9) (.cells ((([sItems] : List S).map bs).map Value.string).toArray 9)))
  have HT9a := Aside0.mk (HT9.out.below (below_alloc (Below.refl W9.heap.size W9) (.cells ((([sItems] : List S).map bs).map Value.string).toArray 9)))
  refine (only_any nd1 A1 c1 (some ⟨W9.heap.size, 0, none⟩) 1 [sItems] _ (HG.out.below HB9a.out) nd1_sm HR9a.out (by decide) (by decide) (lit_S [sItems] W9 (by decide)) (by decide)).mono ?_
  rintro e W10 ⟨rfl, hb⟩
  rw [nd1_only1]
  have HB10 := Aside0.mk (below_step HB9a.out hb)
  have HR10 := Aside0.mk (HR9a.out.below hb)
  have HT10 := Aside0.mk (HT9a.out.below hb)
  clear hb
  go_wp2_with fail
  have HB10a := Aside0.mk (below_alloc HB10.out (.cells ((([sItems, sB, sC] : List S).map bs).map Value.string).toArray 9))
  have HR10a := Aside0.mk (HR10.out.below (below_alloc (Below.refl W10.heap.size W10) (.cells ((([sItems, sB, sC] : List S).map bs).map Value.string).toArray 9)))
  have HT10a := Aside0.mk (HT10.out.below (below_alloc (Below.refl W10.heap.size W10) (.cells ((([sItems, sB, sC] : List S).map bs).map Value.string).toArray 9)))
  refine (only_any nd1 A1 c1 (some ⟨W10.heap.size, 0, none⟩) 3 [sItems, sB, sC] _ (HG.out.below HB10a.out) nd1_sm HR10a.out (by decide) (by decide) (lit_S [sItems, sB, sC] W10 (by decide)) (by decide)).mono ?_
  rintro e W11 ⟨rfl, hb⟩
  rw [nd1_only3]
  have HB11 := Aside0.mk (below_step HB10a.out hb)
  have HR11 := Aside0.mk (HR10a.out.below hb)
  have HT11 := Aside0.mk (HT10a.out.below hb)
  clear hb
  go_wp2_with fail
  have HB11a := Aside0.mk (below_alloc HB11.out (.cells #[.int .u8 0, .string ⟨#[]⟩, .slice none 0 0, .slice none 0 0, .slice none 0 0] 37))
  have HR11a := Aside0.mk (HR11.out.below (below_alloc (Below.refl W11.heap.size W11) (.cells #[.int .u8 0, .string ⟨#[]⟩, .slice none 0 0, .slice none 0 0, .slice none 0 0] 37)))
  have HT11a := Aside0.mk (HT11.out.below (below_alloc (Below.refl W11.heap.size W11) (.cells #[.int .u8 0, .string ⟨#[]⟩, .slice none 0 0, .slice none 0 0, .slice none 0 0] 37)))
  refine (only_any nd3 (some ⟨W11.heap.size, 0, none⟩) 1 none 0 [] _ (HG.out.below HB11a.out) nd3_sm (nd3_rd W11) (by decide) (by decide) ⟨C_none _ _ _ rfl, Nat.zero_le _⟩ (by decide)).mono ?_
  rintro e W12 ⟨rfl, hb⟩
  rw [nd3_only]
  have HB12 := Aside0.mk (below_step HB11a.out hb)
  have HR12 := Aside0.mk (HR11a.out.below hb)
  have HT12 := Aside0.mk (HT11a.out.below hb)
  clear hb
  go_wp2
  go_ret
  exact ⟨rfl, HB12.out⟩
end Go.Proofs.YtniibpndgcndbaaGreatDoor.Tpl
namespace Go.Proofs.YtniibpndgcndbaaGreatDoor.Tpl
open Go.RowKit Go.Proofs Go.Proofs.YtniibpndgcndbaaGreatDoor.PB Go.Proofs.YtniibpndgcndbaaGreatDoor.Short Go.Proofs.YtniibpndgcndbaaGreatDoorW.PrintWords Go.Proofs.YtniibpndgcndbaaGreatDoorW.PrintLast Go.Proofs.YtniibpndgcndbaaGreatDoorW.PrintMore Nodes
set_option maxHeartbeats 4000000 in
set_option maxRecDepth 100000 in
theorem tells_any (l : Nodes) (A : Option Addr) (c : Nat) (An : Option Addr) (cn : Nat) (names : List S) (w : World) (hG : Glob w) (hs : l.sm) (hR : Rd w A c l) (hl : l.len ≤ 1048576) (hc : l.cnt ≤ 1048576) (hRn : RdS w An cn names) (hn : names.length ≤ 1048576) :
    Calls Tryz.prog 3 #[.slice A l.len c, .slice An names.length cn] w fun e w' => e = .returned (.bool true) ∧ Below w.heap.size w w' := by
  have HG := Aside0.mk hG
  have HS := Aside0.mk hs
  have HR0 := Aside0.mk hR
  have HN0 := Aside0.mk hRn
  have hrl : (rootsOf l).length ≤ 1048576 := Nat.le_trans (rootsOf_len l) hc
  have HB0 := Aside0.mk (Below.refl w.heap.size w)
  obtain ⟨k, hk⟩ : ∃ k : Int, (if l.chk = true then 0 else 2) = k := ⟨_, rfl⟩
  obtain ⟨rd, hrd⟩ : ∃ k : Int, (if l.chk = true then (l.depthP : Int) else 0) = k := ⟨_, rfl⟩
  obtain ⟨rc, hrc⟩ : ∃ k : Int, (if l.chk = true then (l.cnt : Int) else 0) = k := ⟨_, rfl⟩
  obtain ⟨rp, hrp⟩ : ∃ k : Int, (if l.chk = true then (l.plainP : Int) else 0) = k := ⟨_, rfl⟩
  have HK := Aside0.mk hk
  have HRD := Aside0.mk hrd
  have HRC := Aside0.mk hrc
  have HRP := Aside0.mk hrp
  clear hG hs hR hRn hk hrd hrc hrp
  go_enter Tryz.func3, Tryz.ntmps3
  go_wp2_with fail
  refine (roots2_any l A c w (HG.out.below HB0.out) HS.out HR0.out hl hc).mono ?_
  rintro e W1 ⟨A2, c2, rfl, hS, hb⟩
  rw [HK.out]
  have HB1 := Aside0.mk (below_step HB0.out hb)
  have HR1 := Aside0.mk (HR0.out.below hb)
  have HN1 := Aside0.mk (HN0.out.below hb)
  have HA1 := Aside0.mk hS
  clear hS
  clear hb
  go_wp2_with fail
  refine (rroots2_any l A c W1 HS.out HR1.out hl hc).mono ?_
  rintro e W2 ⟨A3, c3, rfl, hS, hb⟩
  rw [HK.out]
  have HB2 := Aside0.mk (below_step HB1.out hb)
  have HR2 := Aside0.mk (HR1.out.below hb)
  have HN2 := Aside0.mk (HN1.out.below hb)
  have HA2 := Aside0.mk (HA1.out.below hb)
  have HZ2 := Aside0.mk hS
  clear hS
  clear hb
  go_wp2_with fail
  refine (depth_any l A c W2 (HG.out.below HB2.out) HS.out HR2.out hl hc).mono ?_
  rintro e W3 ⟨rfl, hb⟩
  rw [HRD.out, HK.out]
  have HB3 := Aside0.mk (below_step HB2.out hb)
  have HR3 := Aside0.mk (HR2.out.below hb)
  have HN3 := Aside0.mk (HN2.out.below hb)
  have HA3 := Aside0.mk (HA2.out.below hb)
  have HZ3 := Aside0.mk (HZ2.out.below hb)
  clear hb
  go_wp2_with fail
  refine (rdepth_any l A c W3 HS.out HR3.out hc).mono ?_
  rintro e W4 ⟨rfl, hb⟩
  rw [HRD.out, HK.out]
  have HB4 := Aside0.mk (below_step HB3.out hb)
  have HR4 := Aside0.mk (HR3.out.below hb)
  have HN4 := Aside0.mk (HN3.out.below hb)
  have HA4 := Aside0.mk (HA3.out.below hb)
  have HZ4 := Aside0.mk (HZ3.out.below hb)
  clear hb
  go_wp2_with fail
  refine (count_any l A c W4 (HG.out.below HB4.out) HS.out HR4.out hl hc).mono ?_
  rintro e W5 ⟨rfl, hb⟩
  rw [HRC.out, HK.out]
  have HB5 := Aside0.mk (below_step HB4.out hb)
  have HR5 := Aside0.mk (HR4.out.below hb)
  have HN5 := Aside0.mk (HN4.out.below hb)
  have HA5 := Aside0.mk (HA4.out.below hb)
  have HZ5 := Aside0.mk (HZ4.out.below hb)
  clear hb
  go_wp2_with fail
  refine (rcount_any l A c W5 HS.out HR5.out hc).mono ?_
  rintro e W6 ⟨rfl, hb⟩
  rw [HRC.out, HK.out]
  have HB6 := Aside0.mk (below_step HB5.out hb)
  have HR6 := Aside0.mk (HR5.out.below hb)
  have HN6 := Aside0.mk (HN5.out.below hb)
  have HA6 := Aside0.mk (HA5.out.below hb)
  have HZ6 := Aside0.mk (HZ5.out.below hb)
  clear hb
  go_wp2_with fail
  refine (plain_any l A c W6 (HG.out.below HB6.out) HS.out HR6.out hl hc).mono ?_
  rintro e W7 ⟨rfl, hb⟩
  rw [HRP.out, HK.out]
  have HB7 := Aside0.mk (below_step HB6.out hb)
  have HR7 := Aside0.mk (HR6.out.below hb)
  have HN7 := Aside0.mk (HN6.out.below hb)
  have HA7 := Aside0.mk (HA6.out.below hb)
  have HZ7 := Aside0.mk (HZ6.out.below hb)
  clear hb
  go_wp2_with fail
  refine (rplain_any l A c W7 HS.out HR7.out hc).mono ?_
  rintro e W8 ⟨rfl, hb⟩
  rw [HRP.out, HK.out]
  have HB8 := Aside0.mk (below_step HB7.out hb)
  have HR8 := Aside0.mk (HR7.out.below hb)
  have HN8 := Aside0.mk (HN7.out.below hb)
  have HA8 := Aside0.mk (HA7.out.below hb)
  have HZ8 := Aside0.mk (HZ7.out.below hb)
  clear hb
  go_wp2_with fail
  refine (lives_any W8 (HG.out.below HB8.out)).mono ?_
  rintro e W9 ⟨rfl, hb⟩
  have HB9 := Aside0.mk (below_step HB8.out hb)
  have HR9 := Aside0.mk (HR8.out.below hb)
  have HN9 := Aside0.mk (HN8.out.below hb)
  have HA9 := Aside0.mk (HA8.out.below hb)
  have HZ9 := Aside0.mk (HZ8.out.below hb)
  clear hb
  go_wp2_with fail
  refine (same_any A2 c2 (rootsOf l) A3 c3 (rootsOf l) W9 HA9.out HZ9.out hrl).mono ?_
  rintro e W10 ⟨rfl, hb⟩
  rw [decide_eq_true (show rootsOf l = rootsOf l from rfl)]
  have HB10 := Aside0.mk (below_step HB9.out hb)
  have HR10 := Aside0.mk (HR9.out.below hb)
  have HN10 := Aside0.mk (HN9.out.below hb)
  clear hb
  go_wp2_with fail
  refine (only_any l A c An cn names W10 (HG.out.below HB10.out) HS.out HR10.out hl hc HN10.out hn).mono ?_
  rintro e W11 ⟨rfl, hb⟩
  have HB11 := Aside0.mk (below_step HB10.out hb)
  have HR11 := Aside0.mk (HR10.out.below hb)
  have HN11 := Aside0.mk (HN10.out.below hb)
  clear hb
  go_wp2_with fail
  refine (ronly_any l A c An cn names W11 HS.out HR11.out hl hc HN11.out hn).mono ?_
  rintro e W12 ⟨rfl, hb⟩
  have HB12 := Aside0.mk (below_step HB11.out hb)
  have HR12 := Aside0.mk (HR11.out.below hb)
  have HN12 := Aside0.mk (HN11.out.below hb)
  clear hb
  go_wp2_with fail
  refine (this_any l A c W12 (HG.out.below HB12.out) HS.out HR12.out hl hc).mono ?_
  rintro e W13 ⟨rfl, hb⟩
  have HB13 := Aside0.mk (below_step HB12.out hb)
  have HR13 := Aside0.mk (HR12.out.below hb)
  have HN13 := Aside0.mk (HN12.out.below hb)
  clear hb
  go_wp2_with fail
  refine (rthis_any l A c W13 HS.out HR13.out hc).mono ?_
  rintro e W14 ⟨rfl, hb⟩
  have HB14 := Aside0.mk (below_step HB13.out hb)
  have HR14 := Aside0.mk (HR13.out.below hb)
  have HN14 := Aside0.mk (HN13.out.below hb)
  clear hb
  go_wp2
  go_ret
  exact ⟨by simp, HB14.out⟩
end Go.Proofs.YtniibpndgcndbaaGreatDoor.Tpl
namespace Go.Proofs.YtniibpndgcndbaaGreatDoor.Tpl
open Go.RowKit Go.ChangeShapes Go.WideShapes Go.Proofs.YtniibpndgcndbaaGreatDoor.PB Go.Proofs.YtniibpndgcndbaaGreatDoorW.PrintWords
section
variable {H : Type} {enc : TypeId × Value → H} {W : World}
theorem bulk_strs (ss : List ByteArray) : (ss.length ≤ Rows.uptoBulkAll (strs (H := H) ss)) ∧ ∀ s ∈ ss, s.size ≤ Rows.uptoBulkAll (strs (H := H) ss) := by
  induction ss with
  | nil => exact ⟨Nat.zero_le _, fun _ h => by cases h⟩
  | cons s ss ih =>
    have e : Rows.uptoBulkAll (strs (H := H) (s :: ss)) = (s.size + 1) + Rows.uptoBulkAll (strs (H := H) ss) := by
      show Rows.uptoBulkAll (DataW.lit (.string s.data.toList) :: strs ss) = _
      simp only [Rows.uptoBulkAll, Rows.uptoBulk, Array.length_toList]
      rfl
    rw [e]
    refine ⟨by simp only [List.length_cons]; omega, fun x hx => ?_⟩
    rcases List.mem_cons.1 hx with rfl | hx
    · omega
    · have := ih.2 x hx; omega
theorem cells_strs : Tryz.prog.cellsOf 9 = 1 := by kernel_rfl
theorem cells_node : Tryz.prog.cellsOf 37 = 5 := by kernel_rfl
theorem cells_kind : Tryz.prog.cellsOf 35 = 1 := by kernel_rfl
theorem cells_names : Tryz.prog.cellsOf 23 = 1 := by kernel_rfl
theorem cells_nodes : Tryz.prog.cellsOf 22 = 1 := by kernel_rfl
theorem under_kind : Tryz.prog.underlying 35 = some (.int .u8) := by kernel_rfl
theorem bs_toList (s : ByteArray) : bs s.data.toList = s := by cases s; simp [bs]
theorem open_names {fuel : Nat} {cs : List Value} {x : DataW H × List MemPlace} (h : DataW.trod enc Tryz.prog W 0 (fun _ => true) true fuel 23 cs = some x) :
    ∃ A c names, cs = [.slice A names.length c] ∧ RdS W A c names ∧ names.length ≤ Rows.uptoBulk x.1 ∧ ∀ s ∈ names, s.length ≤ Rows.uptoBulk x.1 := by
  rcases open_strings Tryz.underlying23 Tryz.underlying9 cells_strs h with ⟨rfl, rfl⟩ | ⟨a, len, cap, ss, rfl, _, hl, hm, hz, rfl, hcell, hsz⟩
  · exact ⟨none, 0, [], rfl, ⟨⟨rfl, Nat.zero_le _, fun h => absurd h (by simp)⟩, Nat.le_refl _⟩, Nat.zero_le _, fun _ h => by cases h⟩
  · have hz' : ss.length = cap := by simpa using hz
    have hlen : (ss.take len).length = len := by simp; omega
    obtain ⟨b1, b2⟩ := bulk_strs (H := H) (ss.take len)
    have hb : Rows.uptoBulkAll (strs (H := H) (ss.take len)) ≤ Rows.uptoBulk (.slice (strs (H := H) (ss.take len)) (strs (ss.drop len))) := by simp only [Rows.uptoBulk]; omega
    have hmap : ((ss.take len).map (fun s => s.data.toList)).map bs = ss.take len := by
      rw [List.map_map]
      conv => rhs; rw [← List.map_id (ss.take len)]
      exact List.map_congr_left fun s _ => bs_toList s
    refine ⟨some a, cap, (ss.take len).map (fun s => s.data.toList), by rw [List.length_map, hlen], ⟨?_, by rw [List.length_map, hlen]; exact hl⟩, by simp only [List.length_map]; omega, ?_⟩
    · rw [hmap]
      refine ⟨by simp, by simp only [List.length_map, hlen]; unfold maxLen at hm; omega, fun _ => ⟨a, rfl, fun j p hp => ⟨[.string p], rfl, rfl, fun i u hu => ?_⟩⟩⟩
      have hj : j < len := by have := (List.getElem?_eq_some_iff.1 hp).1; omega
      obtain ⟨rfl, rfl⟩ : i = 0 ∧ .string p = u := by cases i with | zero => exact ⟨rfl, by simpa using hu⟩ | succ i => simp at hu
      have hc := hcell j (by omega)
      rw [List.getElem?_take, if_pos hj] at hp
      rw [List.getD_eq_getElem?_getD, hp] at hc
      show W.cell? (a.add (j * 1 + 0)) = _
      rw [Nat.mul_one]
      exact hc
    · intro s hs
      obtain ⟨s', hs', rfl⟩ := List.mem_map.1 hs
      have := b2 s' hs'
      show s'.data.toList.length ≤ _
      rw [Array.length_toList]
      exact Nat.le_trans (show s'.data.size ≤ _ from this) hb
theorem five {α : Type} {l : List α} (h : l.length = 5) : ∃ a b c d e, l = [a, b, c, d, e] :=
  match l, h with | [a, b, c, d, e], _ => ⟨a, b, c, d, e, rfl⟩
def Elem (W : World) (ad : Addr) (j : Nat) (y : DataW H) : Prop :=
  ∃ k t p a b, (∃ c, c.length = 5 ∧ kN.K W ⟨(k : Nat), bs t, p.map bs, Nodes.of a, Nodes.of b⟩ c ∧ ∀ i u, c[i]? = some u → W.cell? (ad.add (j * 5 + i)) = some u) ∧
    (Rows.uptoBulk y ≤ 1048576 → (Nodes.cons k t p a b .nil).sm) ∧ 1 + a.cnt + b.cnt ≤ Rows.uptoBulk y
theorem gather {ad : Addr} : ∀ (ys : List (DataW H)) (o : Nat), (∀ j y, ys[j]? = some y → Elem W ad (o + j) y) →
    ∃ l : Nodes, l.len = ys.length ∧ (∀ j x, l.of[j]? = some x → ∃ c, c.length = 5 ∧ kN.K W x c ∧ ∀ i u, c[i]? = some u → W.cell? (ad.add ((o + j) * 5 + i)) = some u) ∧
      (Rows.uptoBulkAll ys ≤ 1048576 → l.sm) ∧ l.cnt ≤ Rows.uptoBulkAll ys := by
  intro ys
  induction ys with
  | nil => exact fun o _ => ⟨.nil, rfl, fun j x h => by simp [Nodes.of] at h, fun _ => trivial, Nat.zero_le _⟩
  | cons y ys ih =>
    intro o h
    obtain ⟨r, h1, h2, h3, h4⟩ := ih (o + 1) (fun j z hz => by have := h (j + 1) z (by simpa using hz); rwa [show o + (j + 1) = o + 1 + j by omega] at this)
    obtain ⟨k, t, p, a, b, hc, hs, hn⟩ := h 0 y rfl
    refine ⟨.cons k t p a b r, by simp [Nodes.len, h1], ?_, ?_, ?_⟩
    · intro j x hx
      cases j with
      | zero =>
        have : (⟨(k : Nat), bs t, p.map bs, Nodes.of a, Nodes.of b⟩ : SN) = x := by simpa [Nodes.of] using hx
        subst this
        exact hc
      | succ j =>
        have := h2 j x (by simpa [Nodes.of] using hx)
        rwa [show o + 1 + j = o + (j + 1) by omega] at this
    · intro hb
      simp only [Rows.uptoBulkAll] at hb
      obtain ⟨g1, g2, g3, g4, g5, g6, g7, g8, _⟩ := hs (by omega)
      exact ⟨g1, g2, g3, g4, g5, g6, g7, g8, h3 (by omega)⟩
    · simp only [Rows.uptoBulkAll, Nodes.cnt]
      omega
theorem cnt_len (l : Nodes) : l.len ≤ l.cnt := by
  induction l with
  | nil => exact Nat.le_refl _
  | cons k t p a b r _ _ ih => simp only [Nodes.len, Nodes.cnt]; omega
theorem open_nodes : ∀ (fuel : Nat) (cs : List Value) (x : DataW H × List MemPlace), DataW.trod enc Tryz.prog W 0 (fun _ => true) true fuel 22 cs = some x →
    ∃ A c l, cs = [.slice A (Nodes.len l) c] ∧ Nodes.Rd W A c l ∧ (Rows.uptoBulk x.1 ≤ 1048576 → l.sm) ∧ l.cnt ≤ Rows.uptoBulk x.1 := by
  intro fuel
  induction fuel using Nat.strongRecOn with
  | ind fuel ih =>
  intro cs x h
  rcases DataW.trod_slice Tryz.underlying22 h with ⟨rfl, rfl⟩ | ⟨ad, len, cap, elems, rest, n, rfl, rfl, rfl, _, hl, hm, hlen, hel, _, _⟩
  · exact ⟨none, 0, .nil, rfl, ⟨⟨rfl, Nat.zero_le _, fun h => absurd h (by simp [Nodes.len])⟩, Nat.le_refl _⟩, fun _ => trivial, Nat.zero_le _⟩
  · have each : ∀ j y, (elems.map (·.1))[j]? = some y → Elem W ad (0 + j) y := by
      intro j y hy
      rw [List.getElem?_map] at hy
      obtain ⟨z, hz, rfl⟩ := Option.map_eq_some_iff.1 hy
      have hj : j < len := by have := (List.getElem?_eq_some_iff.1 hz).1; omega
      have hb := hel j hj
      rw [hz, cells_node, Option.bind_eq_some_iff] at hb
      obtain ⟨c, hc, hd⟩ := hb
      obtain ⟨_, hc5, hcell⟩ := World.cells?_some hc
      obtain ⟨xs, m, rfl, rfl, _, hxs, hf⟩ := DataW.trod_struct Tryz.underlying37 hd
      obtain ⟨y0, y1, y2, y3, y4, rfl⟩ := five hxs
      obtain ⟨v0, v1, v2, v3, v4, rfl⟩ := five hc5
      have f0 := hf 0 _ rfl
      have f1 := hf 1 _ rfl
      have f2 := hf 2 _ rfl
      have f3 := hf 3 _ rfl
      have f4 := hf 4 _ rfl
      simp only [List.getElem_toArray, List.getElem_cons_zero, List.getElem_cons_succ, cells_kind] at f0
      simp only [List.getElem_toArray, List.getElem_cons_zero, List.getElem_cons_succ, cells_strs] at f1
      simp only [List.getElem_toArray, List.getElem_cons_zero, List.getElem_cons_succ, cells_names] at f2
      simp only [List.getElem_toArray, List.getElem_cons_zero, List.getElem_cons_succ, cells_nodes] at f3 f4
      obtain ⟨k, e0, rfl, hk⟩ := DataW.trod_int under_kind f0
      obtain ⟨s, e1, rfl, hs⟩ := DataW.trod_string Tryz.underlying9 f1
      obtain ⟨A2, c2, p, e2, hp, lp, sp⟩ := open_names f2
      obtain ⟨A3, c3, a, e3, ha, sa, na⟩ := ih m (by omega) _ _ f3
      obtain ⟨A4, c4, b, e4, hb, sb, nb⟩ := ih m (by omega) _ _ f4
      simp only [List.drop, List.take, List.cons.injEq, and_true] at e0 e1 e2 e3 e4
      subst e0 e1 e2 e3 e4
      have hk' : 0 ≤ k ∧ k < 256 := by
        have h1 : IntKind.u8.min = 0 := by decide
        have h2 : IntKind.u8.max = 255 := by decide
        have := hk
        simp [Lit.wf, h1, h2] at this
        omega
      obtain ⟨k, rfl⟩ : ∃ q : Nat, k = q := ⟨k.toNat, by omega⟩
      refine ⟨k, s.data.toList, p, a, b, ⟨[.int .u8 k, .string s, .slice A2 p.length c2, .slice A3 (Nodes.len a) c3, .slice A4 (Nodes.len b) c4], rfl, ?_, fun i u hu => ?_⟩, ?_, ?_⟩
      · rw [bs_toList]
        have := k37_mk W (⟨(k : Nat), s, p.map bs, Nodes.of a, Nodes.of b⟩ : SN) (A2 := A2) (c2 := c2) (by simpa using hp.2) (by simpa using hp.1) (A3 := A3) (c3 := c3) (by simpa [Nodes.of_len] using ha.2) (by simpa [Nodes.of_len] using ha.1) (A4 := A4) (c4 := c4) (by simpa [Nodes.of_len] using hb.2) (by simpa [Nodes.of_len] using hb.1)
        simpa [Nodes.of_len] using this
      · have hi : i < 5 := by have := (List.getElem?_eq_some_iff.1 hu).1; simpa using this
        rw [Nat.zero_add, ← hu, ← hcell i hi, Go.Deep.add_add]
      · intro hbk
        simp only [List.map_cons, List.map_nil, Rows.uptoBulk, Rows.uptoBulkAll] at hbk
        refine ⟨by omega, by omega, by omega, fun q hq => ?_, ?_, ?_, sa (by omega), sb (by omega), trivial⟩
        · have := sp q hq; omega
        · have := cnt_len a; omega
        · have := cnt_len b; omega
      · simp only [List.map_cons, List.map_nil, Rows.uptoBulk, Rows.uptoBulkAll]
        omega
    obtain ⟨l, h1, h2, h3, h4⟩ := gather (elems.map (·.1)) 0 each
    have h1' : l.len = len := by rw [h1, List.length_map, hlen]
    refine ⟨some ad, cap, l, by rw [h1'], ⟨⟨Nodes.of_len l, by rw [h1']; unfold maxLen at hm; omega, fun _ => ⟨ad, rfl, fun j p hp => ?_⟩⟩, by omega⟩, ?_, ?_⟩
    · have := h2 j p hp
      rwa [Nat.zero_add] at this
    · intro hb
      simp only [Rows.uptoBulk] at hb
      exact h3 (by omega)
    · simp only [Rows.uptoBulk]
      omega
end
end Go.Proofs.YtniibpndgcndbaaGreatDoor.Tpl
namespace Go.Proofs.YtniibpndgcndbaaGreatDoor.Tpl
open Go.RowKit
theorem gErr : Tryz.prog.globalNamed "bellman/tree.errPair" = some 1 := by kernel_rfl
theorem tErr : (Tryz.prog.globals[1]?).map (·.type) = some 83 := by kernel_rfl
theorem starErr : "*" ++ "errors.errorString" = "*errors.errorString" := by decide
theorem rowErr (u : TypeId) (h : Tryz.prog.typeName? 3 u = some "*errors.errorString") : u = 266 :=
  typeName_ptr_named (nm := "errors.errorString") (by rw [starErr]; kernel_rfl) (by kernel_rfl) (by decide) u (by rw [starErr]; exact h)
theorem glob_of_sentinel {W : World} {r : List (String × DataW Unit)} (hW : W.ShapedOpen Tryz.prog) (h : laidMet Tryz.prog (("bellman/tree.errPair", Rows.laid_bellman_tree_errPair) :: r) W) : Glob W := by
  refine ⟨cell_of_shapedOpen_int (g := 3) (zero := #[.int .i64 0]) (t := 3) hW (of_decide_eq_true (by kernel_rfl)) (by kernel_rfl) rfl (by kernel_rfl) (by kernel_rfl) Tryz.underlying3, ?_⟩
  obtain ⟨a, s, hv, _⟩ := laid_sentinel (n := "bellman/tree.errPair") (nm := "*errors.errorString") h gErr tErr Tryz.underlying83 rowErr Tryz.underlying266 Tryz.underlying284 rfl rfl Tryz.underlying9 (by kernel_rfl) (by kernel_rfl)
  exact ⟨a, by simpa using World.var?_cell gErr hv 0⟩
def vetLaid : List (String × DataW Unit) := [("unicode/utf8.acceptRanges", Rows.laid_unicode_utf8_acceptRanges), ("bellman/tree.errPair", Rows.laid_bellman_tree_errPair), ("unicode/utf8.first", Rows.laid_unicode_utf8_first)]
theorem glob_of_laid {W : World} (hW : W.ShapedOpen Tryz.prog) (h : laidMetH Tryz.prog vetLaid W) : Glob W := by
  rw [MakeChecks.laidMetH_plain _ _ _ (by kernel_rfl)] at h
  exact glob_of_sentinel hW (laidMet.tail h)
end Go.Proofs.YtniibpndgcndbaaGreatDoor.Tpl
