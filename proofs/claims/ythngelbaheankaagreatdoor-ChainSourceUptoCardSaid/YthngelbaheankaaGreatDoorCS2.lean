/- Part 2 of the proof (texts of this claim, merged in build order; what the claim does not need has been left out). -/
import Derived.Test.YthngelbaheankaaGreatDoorCS1
import Derived.Deep.Slices
import Derived.Laws.CopyOwn
import Derived.Lib.Hide
import Derived.OpenShut
import Derived.Outline
import Derived.Shelf.Spec.SlicesInsert
import Derived.SliceStrings
import Derived.Test.YthngelbaheankaaGreatDoorRows
set_option linter.unusedVariables false
set_option linter.unusedSimpArgs false
namespace Go.Proofs.YthngelbaheankaaGreatDoor.Tpl
open Go.RowKit Go.Proofs Go.Proofs.YthngelbaheankaaGreatDoor.PB Go.Proofs.YthngelbaheankaaGreatDoor.Short Go.Proofs.YthngelbaheankaaGreatDoorW.PrintWords Go.Proofs.YthngelbaheankaaGreatDoorW.PrintLast Go.Proofs.YthngelbaheankaaGreatDoorW.PrintMore Nodes
set_option maxRecDepth 100000 in
theorem nodes_zero (a : Addr) (w0 : World) : NAll a w0 0 := by
  intro l W g hm hs hP
  have : l = [] := List.length_eq_zero_iff.1 (by omega)
  subst this
  have HP := Aside0.mk hP
  obtain ⟨Ap, cp, hgp, _, _, _⟩ := hP
  have z0 : W.cell? ⟨g, 0, none⟩ = some (.slice Ap 0 cp) := (blk_cell hgp 0).trans rfl
  have f0 := blk_frozen hgp 0
  clear hgp
  rw [parse_nil]
  go_enter Tryz.func160, Tryz.ntmps160
  go_wp2
  refine wp_loop_rounds 1 ?_
  rw [rounds_succ]
  go_wp2
  go_ret2
  exact ⟨KeepP.refl _, _, _, rfl, Kd.R_nil _ _ _ _ _, HP.out⟩
theorem nodes_all (a : Addr) (w0 : World) (hE : GE w0 a) : ∀ m, m ≤ 1048576 → NAll a w0 m := by
  intro m
  induction m with
  | zero => intro _; exact nodes_zero a w0
  | succ m ih => intro hm l W g hl hs hP; exact nodes_step a w0 hE m (by omega) (ih (by omega)) l W g hl hs hP
def ARet (o : Option Nodes) (a : Addr) (w0 W : World) (g : Nat) (e : Ending) (w' : World) : Prop :=
  KeepP (fun k => k = g) W w' ∧
  match o with
  | none => ∃ v, e = .returned (.tuple #[v, errv a])
  | some nd => ∃ A c, e = .returned (.tuple #[.slice A nd.len c, .nilIface]) ∧ kN.R 116 w' W.heap.size (fun k => W.heap.size ≤ k) (.slice A nd.len c) nd.of
def allP (l : List Tok) : Option Nodes := match parse l with | none => none | some (nd, r) => if r = [] then some nd else none
set_option maxRecDepth 100000 in
theorem all_any (a : Addr) (w0 : World) (hE : GE w0 a) (l : List Tok) (W : World) (g : Nat) (hm : l.length ≤ 1048576) (hs : ∀ x, x ∈ l → x.sm) (hP : PS w0 W g l) :
    Calls Tryz.prog 108 #[.pointer (some ⟨g, 0, none⟩)] W (ARet (allP l) a w0 W g) := by
  have h := nodes_all a w0 hE _ hm l W g (Nat.le_refl _) hs hP
  have HE := Aside0.mk hE
  clear hP hE hs
  unfold allP
  cases hp : parse l with
  | none =>
    rw [hp] at h
    clear hp
    go_enter Tryz.func108, Tryz.ntmps108
    go_wp2_with fail
    refine h.mono ?_
    rintro e W1 ⟨hk, rfl⟩
    have HK := Aside0.mk hk
    clear hk h
    go_wp2
    go_ret2
    exact ⟨HK.out, _, rfl⟩
  | some z =>
    obtain ⟨nd, r⟩ := z
    rw [hp] at h
    clear hp
    simp only
    cases r with
    | nil =>
      rw [if_pos rfl]
      go_enter Tryz.func108, Tryz.ntmps108
      go_wp2_with fail
      refine h.mono ?_
      rintro e W1 ⟨hk, A, c, rfl, hR, Ap, cp, hgp, _, _, _⟩
      have z0 : W1.cell? ⟨g, 0, none⟩ = some (.slice Ap 0 cp) := (blk_cell hgp 0).trans rfl
      have f0 := blk_frozen hgp 0
      have HK := Aside0.mk hk
      have HR := Aside0.mk hR
      clear hk h hR hgp
      go_wp2
      go_ret2
      exact ⟨HK.out, _, _, rfl, HR.out⟩
    | cons t r =>
      rw [if_neg (by simp)]
      go_enter Tryz.func108, Tryz.ntmps108
      go_wp2_with fail
      refine h.mono ?_
      rintro e W1 ⟨hk, A, c, rfl, hR, hP⟩
      have hge := HE.out.below hP.below
      unfold GE at hge
      obtain ⟨Ap, cp, hgp, _, _, _⟩ := hP
      have hln : (0 : Int) < (((t :: r).length : Nat) : Int) := by simp
      have hli : 0 < (t :: r).length := by simp
      generalize (t :: r).length = n at *
      have z0 : W1.cell? ⟨g, 0, none⟩ = some (.slice Ap n cp) := (blk_cell hgp 0).trans rfl
      have f0 := blk_frozen hgp 0
      have HK := Aside0.mk hk
      clear hk h hR hgp
      go_wp2
      go_ret2
      exact ⟨HK.out, _, rfl⟩
theorem nodesP_eq (l : List Tok) : nodesP l = if toksP l = false then .error 2 else match allP l with | none => .error 7 | some nd => if nd.fitsP = true then .ok nd else .error 11 := by
  unfold nodesP allP
  split
  · rfl
  · cases parse l with
    | none => rfl
    | some z => obtain ⟨nd, r⟩ := z; cases r <;> simp
def PRet (o : Except Int Nodes) (w : World) (e : Ending) (w' : World) : Prop :=
  Below w.heap.size w w' ∧
  match o with
  | .error k => e = .returned (.tuple #[.slice none 0 0, .int .i64 k])
  | .ok nd => ∃ A c, e = .returned (.tuple #[.slice A nd.len c, .int .i64 0]) ∧ kN.R 116 w' w.heap.size (fun k => w.heap.size ≤ k) (.slice A nd.len c) nd.of ∧ Rd w' A c nd
theorem Rd_of_R {w : World} {base : Nat} {ok : Nat → Prop} {A : Option Addr} {c : Nat} {nd : Nodes} (h : kN.R 116 w base ok (.slice A nd.len c) nd.of) : Rd w A c nd := by
  obtain ⟨h1, h2, h3⟩ := Kd.R_reads' h
  rw [of_len] at h3
  exact ⟨h3, h2⟩
set_option maxHeartbeats 1000000 in
set_option maxRecDepth 100000 in
theorem nodesW_any (l : List Tok) (A : Option Addr) (c : Nat) (w : World) (hG : Glob w) (hR : RdT w A c l) (hm : l.length ≤ 1048576) (hs : ∀ x, x ∈ l → x.sm) :
    Calls Tryz.prog 63 #[.slice A l.length c] w (PRet (nodesP l) w) := by
  obtain ⟨o, ho⟩ : ∃ o, nodesP l = o := ⟨_, rfl⟩
  rw [ho]
  rw [nodesP_eq] at ho
  have h1 := check_any A c l w hG hR hm hs
  obtain ⟨a, ha⟩ := hG.2
  have hE : GE w a := ha
  have HE := Aside0.mk hE
  have HR := Aside0.mk hR
  have HS := Aside0.mk hs
  have HG := Aside0.mk hG
  clear ha hE hR hs hG
  cases ht : toksP l with
  | false =>
    rw [ht, if_pos rfl] at ho
    subst ho
    rw [ht] at h1
    clear ht
    go_enter Tryz.func63, Tryz.ntmps63
    go_wp2_with fail
    refine h1.mono ?_
    rintro e W1 ⟨rfl, hb⟩
    have HB := Aside0.mk hb
    clear hb h1
    go_wp2
    go_ret2
    exact ⟨HB.out, rfl⟩
  | true =>
    rw [ht, if_neg (by simp)] at ho
    rw [ht] at h1
    clear ht
    have HO := Aside0.mk ho
    clear ho
    go_enter Tryz.func63, Tryz.ntmps63
    go_wp2_with fail
    refine h1.mono ?_
    rintro e W1 ⟨rfl, hb⟩
    have HB := Aside0.mk hb
    clear hb h1
    have HP : Aside0 (PS w (W1.alloc (.cells #[.slice A l.length c] 176)) W1.heap.size l) := ⟨A, c, blk_new W1 _, HB.out.size, HR.out, below_alloc HB.out _⟩
    have hge1 : w.heap.size ≤ W1.heap.size := HB.out.size
    have HA := Aside0.mk (all_any a w HE.out l _ W1.heap.size hm HS.out HP.out)
    go_wp2_with fail
    refine HA.out.mono ?_
    obtain ⟨g, hg⟩ : ∃ g, W1.heap.size = g := ⟨_, rfl⟩
    rw [hg] at HP hge1 ⊢
    clear hg HA
    generalize W1.alloc (.cells #[.slice A l.length c] 176) = W2 at HP ⊢
    have hlt : g < W2.heap.size := HP.out.lt
    have HB2 := Aside0.mk HP.out.below
    cases hal : allP l with
    | none =>
      rw [hal] at HO
      have HO2 : Except.error 7 = o := HO.out
      subst HO2
      rintro e W3 ⟨hk, v, rfl⟩
      have HB3 := Aside0.mk (HB2.out.trans (hk.below (fun z h => by omega) HB2.out.size))
      have hge := HE.out.below HB3.out
      unfold GE at hge
      clear hk
      go_wp2_with fail
      refine (is_same a _).mono ?_
      rintro e w' ⟨rfl, rfl⟩
      go_wp2
      go_ret2
      exact ⟨HB3.out, rfl⟩
    | some nd =>
      rw [hal] at HO
      have HO2 : (if nd.fitsP = true then Except.ok nd else Except.error 11) = o := HO.out
      have hpp : parse l = some (nd, []) := by
        unfold allP at hal
        cases hp : parse l with
        | none => rw [hp] at hal; cases hal
        | some z =>
          obtain ⟨x, r⟩ := z
          rw [hp] at hal
          simp only at hal
          split at hal
          · rename_i hr; cases hal; rw [hr]
          · cases hal
      have hsm := (parse_sm hpp HS.out hm).1
      have hcn := parse_cnt hpp
      simp only [List.length_nil] at hcn
      have hlc := len_cnt nd
      clear hpp hal HO
      rintro e W3 ⟨hk, A3, c3, rfl, hR3⟩
      have HB3 := Aside0.mk (HB2.out.trans (hk.below (fun z h => by omega) HB2.out.size))
      have hge := HE.out.below HB3.out
      unfold GE at hge
      have HR3 := Aside0.mk (Kd.R_mono (Kd.R_lower hR3 HB2.out.size) (fun z hz => Nat.le_trans HB2.out.size hz))
      have hf := fits_any nd A3 c3 W3 hsm (Rd_of_R hR3) (by omega) (by omega)
      clear hk hR3 hsm
      go_wp2_with fail
      refine (is_nil a _).mono ?_
      rintro e w' ⟨rfl, rfl⟩
      cases hfp : nd.fitsP with
      | false =>
        rw [hfp] at hf HO2
        have HO3 : Except.error 11 = o := HO2
        subst HO3
        clear HO2 hfp
        go_wp2_with fail
        refine hf.mono ?_
        rintro e W4 ⟨rfl, hb⟩
        have HB4 := Aside0.mk (below_step HB3.out hb)
        clear hb hf
        go_wp2
        go_ret2
        exact ⟨HB4.out, rfl⟩
      | true =>
        rw [hfp] at hf HO2
        have HO3 : Except.ok nd = o := HO2
        subst HO3
        clear HO2 hfp
        go_wp2_with fail
        refine hf.mono ?_
        rintro e W4 ⟨rfl, hb⟩
        have HB4 := Aside0.mk (below_step HB3.out hb)
        have HR4 := Aside0.mk (Kd.R_below HR3.out hb)
        clear hb hf
        go_wp2
        go_ret2
        exact ⟨HB4.out, _, _, rfl, HR4.out, Rd_of_R HR4.out⟩
theorem tokensS_long (s : S) (hs : 1024 < s.length) (w : World) (h2 : s.length ≤ 1048576) :
    Calls Tryz.prog 62 #[.string (bs s)] w fun e w' => e = .returned (.tuple #[.slice none 0 0, .int .i64 12]) ∧ w' = w := by
  have hl1 : decide ((1024 : Int) < (((bs s).size : Nat) : Int)) = true := by rw [decide_eq_true_eq, bs_size]; omega
  have hl2 : decide (1024 < (bs s).size) = true := by rw [decide_eq_true_eq, bs_size]; omega
  go_enter Tryz.func62, Tryz.ntmps62
  go_wp2
  go_ret2
  exact ⟨rfl, rfl⟩
set_option maxRecDepth 100000 in
theorem parse_any (s : S) (hs : s.length ≤ 1048576) (w : World) (hG : Glob w) : Calls Tryz.prog 34 #[.string (bs s)] w (PRet (parseS s) w) := by
  unfold parseS
  by_cases hl : 1024 < s.length
  · rw [if_pos hl]
    have h := tokensS_long s hl w hs
    go_enter Tryz.func34, Tryz.ntmps34
    go_wp2_with fail
    refine h.mono ?_
    rintro e W1 ⟨rfl, rfl⟩
    go_wp2
    go_ret2
    exact ⟨Below.refl _ _, rfl⟩
  · rw [if_neg hl]
    have h := tokensS_any s (by omega) w hG
    have hsm := toksS_sm (s.length + 1) s
    cases ht : toksS (s.length + 1) s with
    | none =>
      rw [ht] at h
      clear hsm ht
      go_enter Tryz.func34, Tryz.ntmps34
      go_wp2_with fail
      refine h.mono ?_
      rintro e W1 ⟨rfl, hb⟩
      have HB := Aside0.mk hb
      clear hb h
      go_wp2
      go_ret2
      exact ⟨HB.out, rfl⟩
    | some l =>
      rw [ht] at h
      obtain ⟨h1, h2⟩ := hsm l ht (by omega)
      have HS := Aside0.mk h1
      have HG := Aside0.mk hG
      clear hsm ht h1 hG
      obtain ⟨o, ho⟩ : ∃ o, nodesP l = o := ⟨_, rfl⟩
      simp only [ho]
      have HO := Aside0.mk ho
      clear ho
      go_enter Tryz.func34, Tryz.ntmps34
      go_wp2_with fail
      refine h.mono ?_
      rintro e W1 ⟨⟨v, rfl, hR⟩, hb⟩
      obtain ⟨A, c, rfl, hRT⟩ := rdT_of_R hR
      have hn := nodesW_any l A c W1 (HG.out.below hb) hRT (by omega) HS.out
      have HB := Aside0.mk hb
      clear hb h hR hRT
      rw [HO.out] at hn
      cases o with
      | error k =>
        go_wp2_with fail
        refine hn.mono ?_
        rintro e W2 ⟨hb2, rfl⟩
        have HB2 := Aside0.mk (below_step HB.out hb2)
        clear hb2 hn
        go_wp2
        go_ret2
        exact ⟨HB2.out, rfl⟩
      | ok nd =>
        go_wp2_with fail
        refine hn.mono ?_
        rintro e W2 ⟨hb2, A2, c2, rfl, hR2, hRd⟩
        have HB2 := Aside0.mk (below_step HB.out hb2)
        have HR2 := Aside0.mk (Kd.R_mono (Kd.R_lower hR2 HB.out.size) (fun z hz => Nat.le_trans HB.out.size hz))
        have HRd := Aside0.mk hRd
        clear hb2 hn hR2 hRd
        go_wp2
        go_ret2
        exact ⟨HB2.out, _, _, rfl, HR2.out, HRd.out⟩
end Go.Proofs.YthngelbaheankaaGreatDoor.Tpl
namespace Go.Proofs.YthngelbaheankaaGreatDoor.Tpl
open Go.RowKit Nodes
theorem nodesP_ok {l : List Tok} {nd : Nodes} (h : nodesP l = .ok nd) : parse l = some (nd, []) ∧ nd.fitsP = true := by
  unfold nodesP at h
  split at h
  · cases h
  cases h1 : parse l with
  | none => rw [h1] at h; cases h
  | some x =>
    obtain ⟨n, r⟩ := x
    rw [h1] at h
    simp only at h
    split at h
    · cases h
    · split at h
      · cases h
        rename_i hr hf
        have hr' : r = [] := by simpa using hr
        subst hr'
        exact ⟨rfl, hf⟩
      · cases h
theorem parseS_ok {s : S} {nd : Nodes} (h : parseS s = .ok nd) : s.length ≤ 1024 ∧ nd.sm ∧ nd.len ≤ 1048576 ∧ nd.cnt ≤ 1048576 := by
  unfold parseS at h
  split at h
  · cases h
  rename_i hl
  cases h1 : toksS (s.length + 1) s with
  | none => rw [h1] at h; cases h
  | some l =>
    rw [h1] at h
    obtain ⟨h2, h3⟩ := nodesP_ok h
    obtain ⟨h4, h5⟩ := toksS_sm _ _ _ h1 (by omega)
    have h6 := (parse_sm h2 h4 (by omega)).1
    have h7 : nd.cnt ≤ 256 := by
      unfold fitsP at h3
      simp only [Bool.and_eq_true, decide_eq_true_eq] at h3
      exact h3.2
    have h8 := len_cnt nd
    exact ⟨by omega, h6, by omega, by omega⟩
end Go.Proofs.YthngelbaheankaaGreatDoor.Tpl
namespace Go.Proofs.YthngelbaheankaaGreatDoor.Bld
open Go.RowKit
abbrev T : TypeId := 75
abbrev IsB (B b : Nat) (bs : List Value) (w : World) : Prop := Lib.IsBuilderF 75 5 B b bs w
theorem heap_lt {w : World} {b : Nat} {o : Obj} (h : w.heap[b]? = some o) : b < w.heap.size := by
  rcases Nat.lt_or_ge b w.heap.size with h' | h'
  · exact h'
  · simp [Array.getElem?_eq_none h'] at h
theorem string (B b : Nat) (l : List UInt8) (w : World) (h : IsB B b (Lib.byteCells l) w) (hBw : B ≤ w.heap.size) :
    Calls Tryz.prog 43 #[.pointer (some ⟨b, 0, none⟩)] w fun e w' => e = .returned (.string ⟨l.toArray⟩) ∧ IsB B b (Lib.byteCells l) w' ∧ Below B w w' :=
  Tryz.Builder_String_any_f B b l w h hBw
end Go.Proofs.YthngelbaheankaaGreatDoor.Bld
namespace Go.Proofs.YthngelbaheankaaGreatDoor.Esc
open Go.RowKit Go.Proofs.YthngelbaheankaaGreatDoor.Bld Go.Proofs.YthngelbaheankaaGreatDoorW.PrintWords
theorem is_any (c : Int) (h0 : 0 ≤ c) (w : World) : Calls Tryz.prog 185 #[.int .u8 c] w fun e w' => e = .returned (.bool (decide (1 ≤ c ∧ c ≤ 3))) ∧ w = w' := by
  by_cases c1 : 0 < c
  · by_cases c2 : c < 4
    · rw [decide_eq_true (by omega)]
      go_enter Tryz.func185, Tryz.ntmps185
      go_wp2
      go_ret
      exact ⟨rfl, rfl⟩
    · rw [decide_eq_false (by omega)]
      go_enter Tryz.func185, Tryz.ntmps185
      go_wp2
      go_ret
      exact ⟨rfl, rfl⟩
  · rw [decide_eq_false (by omega)]
    go_enter Tryz.func185, Tryz.ntmps185
    go_wp2
    go_ret
    exact ⟨rfl, rfl⟩
end Go.Proofs.YthngelbaheankaaGreatDoor.Esc
namespace Go.Proofs.YthngelbaheankaaGreatDoor.Tpl
open Go.RowKit Go.Proofs Go.Proofs.YthngelbaheankaaGreatDoor.PB Go.Proofs.YthngelbaheankaaGreatDoor.Short Go.Proofs.YthngelbaheankaaGreatDoorW.PrintWords Go.Proofs.YthngelbaheankaaGreatDoorW.PrintLast Go.Proofs.YthngelbaheankaaGreatDoorW.PrintMore Nodes
def GNam (w : World) : Prop := ∀ i : Nat, i < 4 → ∃ s : ByteArray, w.cell? ⟨4, i, none⟩ = some (.string s)
theorem GNam.below {w w' : World} (h : GNam w) (hb : Below w.heap.size w w') : GNam w' := fun i hi => by obtain ⟨s, hs⟩ := h i hi; exact ⟨s, pw_cell_below hb hs⟩
def askedS : List S := [[117, 115, 101, 114], [99, 111, 117, 110, 116], [105, 116, 101, 109, 115], [114, 97, 110, 107], [99, 97, 116, 101, 103, 111, 114, 121]]
def GAsk (w : World) : Prop := RdS w (some ⟨3, 0, none⟩) 5 askedS
structure GlobC (w : World) : Prop where
  glob : Glob w
  typ : GTyp w
  nam : GNam w
  ask : GAsk w
theorem GlobC.below {w w' : World} (h : GlobC w) (hb : Below w.heap.size w w') : GlobC w' := ⟨h.glob.below hb, h.typ.below hb, h.nam.below hb, RdS.below h.ask hb⟩
abbrev faultV (b : Nat) : Value := .iface 91 (.pointer (some ⟨b, 0, none⟩))
def FaultRet (ok : Bool) (w : World) (e : Ending) (w' : World) : Prop := Below w.heap.size w w' ∧ (ok = true → e = .returned .nilIface) ∧ (ok = false → ∃ b, e = .returned (faultV b))
def spanP (n least : Int) : Bool := decide (least ≤ n) && decide (n ≤ 2592000)
theorem span_any (n least : Int) (w : World) : Calls Tryz.prog 93 #[.int .i64 n, .int .i64 least] w fun e w' => e = .returned (.bool (spanP n least)) ∧ w = w' := by
  unfold spanP
  by_cases h1 : least ≤ n
  · rw [decide_eq_true h1]
    go_enter Tryz.func93, Tryz.ntmps93
    go_wp2
    go_ret
    exact ⟨by simp, rfl⟩
  · rw [decide_eq_false h1]
    go_enter Tryz.func93, Tryz.ntmps93
    go_wp2
    go_ret
    exact ⟨by simp, rfl⟩
theorem ename_any (c : Nat) (w : World) (hG : GNam w) : Calls Tryz.prog 147 #[.int .u8 c] w fun e w' => (∃ s : ByteArray, e = .returned (.tuple #[.string s, .int .i64 (if decide (1 ≤ c ∧ c ≤ 3) = true then 0 else 1)])) ∧ Below w.heap.size w w' := by
  by_cases hc : 1 ≤ (c : Int) ∧ (c : Int) ≤ 3
  · obtain ⟨s, g⟩ := hG ((c : Int)).toNat (by omega)
    obtain ⟨b0, b1⟩ := hc
    rw [decide_eq_true (show 1 ≤ c ∧ c ≤ 3 by omega)]
    have hn : (0 : Int) ≤ c := by omega
    clear hG
    generalize (c : Int) = a at *
    go_enter Tryz.func147, Tryz.ntmps147
    go_wp2_with fail
    refine (Esc.is_any a hn _).mono ?_
    rw [decide_eq_true ⟨b0, b1⟩]
    rintro e w1 ⟨rfl, rfl⟩
    go_wp2
    go_ret2
    exact ⟨⟨s, rfl⟩, Below.refl _ _⟩
  · rw [decide_eq_false (show ¬ (1 ≤ c ∧ c ≤ 3) by omega)]
    have hn : (0 : Int) ≤ c := by omega
    clear hG
    generalize (c : Int) = a at *
    go_enter Tryz.func147, Tryz.ntmps147
    go_wp2_with fail
    refine (Esc.is_any a hn _).mono ?_
    rw [decide_eq_false hc]
    rintro e w1 ⟨rfl, rfl⟩
    go_wp2
    go_ret2
    exact ⟨⟨_, rfl⟩, Below.refl _ _⟩
def levP (c : Nat) (ww t p : Int) : Bool := decide (1 ≤ c ∧ c ≤ 3) && spanP ww 0 && spanP p 1 && decide (1 ≤ t ∧ t ≤ 5)
abbrev levV (c : Nat) (ww t p : Int) : Value := .agg #[.int .u8 c, .int .i64 ww, .int .i64 t, .int .i64 p]
theorem faultRet_no {w w' : World} {b : Nat} (hb : Below w.heap.size w w') : FaultRet false w (.returned (faultV b)) w' := ⟨hb, fun h => (by cases h), fun _ => ⟨b, rfl⟩⟩
theorem faultRet_ok {w w' : World} (hb : Below w.heap.size w w') : FaultRet true w (.returned .nilIface) w' := ⟨hb, fun _ => rfl, fun h => (by cases h)⟩
set_option maxHeartbeats 4000000 in
set_option maxRecDepth 100000 in
theorem level_any (c : Nat) (ww t p : Int) (w : World) (hG : GNam w) : Calls Tryz.prog 94 #[levV c ww t p] w (FaultRet (levP c ww t p) w) := by
  obtain ⟨o, ho⟩ : ∃ o, levP c ww t p = o := ⟨_, rfl⟩
  rw [ho]
  unfold levP at ho
  have hb1 := below_alloc (Below.refl w.heap.size w) (.cells #[.int .u8 c, .int .i64 ww, .int .i64 t, .int .i64 p] 41)
  have BK := blk_new w (.cells #[.int .u8 c, .int .i64 ww, .int .i64 t, .int .i64 p] 41 (0, 0))
  have HG := Aside0.mk (hG.below hb1)
  have HB := Aside0.mk hb1
  clear hG hb1
  go_enter Tryz.func94, Tryz.ntmps94
  go_upto_region 1 with (fail)
  generalize w.alloc (.cells #[.int .u8 c, .int .i64 ww, .int .i64 t, .int .i64 p] 41) = W at BK HG HB ⊢
  generalize w.heap.size = b1 at BK ⊢
  obtain ⟨y0, y1, y2, y3, -⟩ := cells_4 BK
  have hn := ename_any c W HG.out
  generalize decide (1 ≤ c ∧ c ≤ 3) = d at ho hn
  cases d with
  | false =>
    subst ho
    go_wp2_with fail
    refine hn.mono ?_
    rintro e W1 ⟨⟨s, rfl⟩, hb⟩
    have HB1 := Aside0.mk (below_step HB.out hb)
    clear hn hb
    go_wp2
    go_ret
    exact faultRet_no (below_alloc HB1.out _)
  | true =>
    go_wp2_with fail
    refine hn.mono ?_
    rintro e W1 ⟨⟨s, rfl⟩, hb⟩
    have HB1 := Aside0.mk (below_step HB.out hb)
    obtain ⟨y0, y1, y2, y3, -⟩ := cells_4 (blk_below BK hb)
    have s1 := fun W => span_any ww 0 W
    have s2 := fun W => span_any p 1 W
    simp only [Bool.true_and] at ho
    generalize spanP ww 0 = d1 at ho s1
    generalize spanP p 1 = d2 at ho s2
    have HO := Aside0.mk ho
    clear hn hb BK ho
    cases d1 with
    | false =>
      obtain rfl : false = o := HO.out
      clear HO HG
      go_wp2_with (go_at_call 93; first | ((with_reducible refine (s1 _).mono ?_); rintro e w' ⟨rfl, rfl⟩) | ((with_reducible refine (s2 _).mono ?_); rintro e w' ⟨rfl, rfl⟩))
      go_ret
      exact faultRet_no (below_alloc HB1.out _)
    | true =>
      cases d2 with
      | false =>
        obtain rfl : false = o := HO.out
        clear HO HG
        go_wp2_with (go_at_call 93; first | ((with_reducible refine (s1 _).mono ?_); rintro e w' ⟨rfl, rfl⟩) | ((with_reducible refine (s2 _).mono ?_); rintro e w' ⟨rfl, rfl⟩))
        go_ret
        exact faultRet_no (below_alloc HB1.out _)
      | true =>
        by_cases h1 : t < 1
        · obtain rfl : false = o := by rw [← HO.out, decide_eq_false (show ¬ (1 ≤ t ∧ t ≤ 5) by omega)]; rfl
          clear HO HG
          go_wp2_with (go_at_call 93; first | ((with_reducible refine (s1 _).mono ?_); rintro e w' ⟨rfl, rfl⟩) | ((with_reducible refine (s2 _).mono ?_); rintro e w' ⟨rfl, rfl⟩))
          go_ret
          exact faultRet_no (below_alloc HB1.out _)
        · by_cases h2 : 5 < t
          · obtain rfl : false = o := by rw [← HO.out, decide_eq_false (show ¬ (1 ≤ t ∧ t ≤ 5) by omega)]; rfl
            clear HO HG
            go_wp2_with (go_at_call 93; first | ((with_reducible refine (s1 _).mono ?_); rintro e w' ⟨rfl, rfl⟩) | ((with_reducible refine (s2 _).mono ?_); rintro e w' ⟨rfl, rfl⟩))
            go_ret
            exact faultRet_no (below_alloc HB1.out _)
          · obtain rfl : true = o := by rw [← HO.out, decide_eq_true (show 1 ≤ t ∧ t ≤ 5 by omega)]; rfl
            clear HO HG
            go_wp2_with (go_at_call 93; first | ((with_reducible refine (s1 _).mono ?_); rintro e w' ⟨rfl, rfl⟩) | ((with_reducible refine (s2 _).mono ?_); rintro e w' ⟨rfl, rfl⟩))
            go_ret
            exact faultRet_ok HB1.out
theorem nodesP_no {l : List Tok} {k : Int} (h : nodesP l = .error k) : k ≠ 0 := by
  unfold nodesP at h
  split at h
  · cases h; decide
  cases h1 : parse l with
  | none => rw [h1] at h; cases h; decide
  | some x =>
    obtain ⟨n, r⟩ := x
    rw [h1] at h
    simp only at h
    split at h
    · cases h; decide
    · split at h
      · cases h
      · cases h; decide
theorem parseS_no {s : S} {k : Int} (h : parseS s = .error k) : k ≠ 0 := by
  unfold parseS at h
  split at h
  · cases h; decide
  cases h1 : toksS (s.length + 1) s with
  | none => rw [h1] at h; cases h; decide
  | some l => rw [h1] at h; exact nodesP_no h
theorem parse_alike {s : S} {w w' : World} {e : Ending} (h : PRet (parseS s) w e w') : Below w.heap.size w w' ∧ ∃ nd y A c, e = .returned (.tuple #[.slice A (Nodes.len nd) c, .int .i64 y]) ∧ Rd w' A c nd ∧ nd.sm ∧ nd.len ≤ 1048576 ∧ nd.cnt ≤ 1048576 ∧ ((y = 0 ∧ parseS s = .ok nd) ∨ (y ≠ 0 ∧ parseS s = .error y)) := by
  obtain ⟨hb, h⟩ := h
  refine ⟨hb, ?_⟩
  cases hp : parseS s with
  | error k =>
    rw [hp] at h
    exact ⟨.nil, k, none, 0, h, ⟨⟨rfl, Nat.zero_le _, fun h => absurd h (Nat.lt_irrefl 0)⟩, Nat.le_refl _⟩, trivial, by decide, by decide, .inr ⟨parseS_no hp, rfl⟩⟩
  | ok nd =>
    rw [hp] at h
    obtain ⟨A, c, he, _, hR⟩ := h
    obtain ⟨_, h1, h2, h3⟩ := parseS_ok hp
    exact ⟨nd, 0, A, c, he, hR, h1, h2, h3, .inl ⟨rfl, rfl⟩⟩
def srcP (s : S) : Bool := match parseS s with
  | .ok nd => (onlyP nd askedS == 0) && (thisP nd == 0)
  | .error _ => false
theorem askedS_len : askedS.length = 5 := rfl
set_option maxHeartbeats 4000000 in
set_option maxRecDepth 100000 in
theorem source_any (s : S) (hs : s.length ≤ 1048576) (w : World) (hG : GlobC w) : Calls Tryz.prog 95 #[.string (bs s)] w (FaultRet (srcP s) w) := by
  have hp := parse_any s hs w hG.glob
  have HG := Aside0.mk hG
  obtain ⟨o, ho⟩ : ∃ o, srcP s = o := ⟨_, rfl⟩
  rw [ho]
  unfold srcP at ho
  have HOO := Aside0.mk ho
  clear hG ho
  go_enter Tryz.func95, Tryz.ntmps95
  go_wp2_with fail
  refine hp.mono ?_
  intro e W1 hP
  obtain ⟨hb, nd, y, A, c, rfl, hR, hsm, hl, hc, hy⟩ := parse_alike hP
  have HB := Aside0.mk hb
  have ho := HOO.out
  clear HOO
  rcases hy with ⟨rfl, hy⟩ | ⟨h0, hy⟩
  · rw [hy] at ho
    have HO := Aside0.mk ho
    have hq := only_any nd A c (some ⟨3, 0, none⟩) 5 askedS W1 (HG.out.glob.below hb) hsm hR hl hc (HG.out.below hb).ask (by decide)
    rw [askedS_len] at hq
    have HR := Aside0.mk hR
    clear hp hP hb hy ho hR
    go_wp2_with fail
    refine hq.mono ?_
    rintro e W2 ⟨rfl, hb⟩
    have HB2 := Aside0.mk (below_step HB.out hb)
    have ht := this_any nd A c W2 (HG.out.glob.below HB2.out) hsm (HR.out.below hb) hl hc
    have ho := HO.out
    generalize onlyP nd askedS = q at ho ⊢
    generalize thisP nd = t at ho ht
    have HO2 := Aside0.mk ho
    clear hq hb HO ho HB HR
    by_cases h1 : q = 0
    · subst h1
      go_wp2_with fail
      refine ht.mono ?_
      rintro e W3 ⟨rfl, hb⟩
      have HB3 := Aside0.mk (below_step HB2.out hb)
      clear ht hb
      by_cases h2 : t = 0
      · subst h2
        obtain rfl : true = o := HO2.out
        go_wp2
        go_ret
        exact faultRet_ok HB3.out
      · obtain rfl : false = o := by rw [← HO2.out, beq_eq_false_iff_ne.2 h2]; rfl
        have h2b : (t == 0) = false := beq_eq_false_iff_ne.2 h2
        go_wp2
        go_ret
        exact faultRet_no (below_alloc HB3.out _)
    · obtain rfl : false = o := by rw [← HO2.out, beq_eq_false_iff_ne.2 h1]; rfl
      have h1b : (q == 0) = false := beq_eq_false_iff_ne.2 h1
      clear ht
      go_wp2
      go_ret
      exact faultRet_no (below_alloc HB2.out _)
  · have h0b : (y == 0) = false := beq_eq_false_iff_ne.2 h0
    obtain rfl : false = o := by rw [← ho, hy]
    clear hp hP hb hy ho hR
    go_wp2
    go_ret
    exact faultRet_no (below_alloc HB.out _)
end Go.Proofs.YthngelbaheankaaGreatDoor.Tpl
set_option maxRecDepth 100000
set_option linter.all false
namespace Go.Proofs.YthngelbaheankaaGreatDoor.PB
open Go.RowKit Go.Proofs.YthngelbaheankaaGreatDoorW.PrintWords Go.Proofs.YthngelbaheankaaGreatDoorW.PrintLast Go.Proofs.YthngelbaheankaaGreatDoorW.PrintMore Go.Proofs.YthngelbaheankaaGreatDoor.Short Go.Proofs.YthngelbaheankaaGreatDoor.Esc
attribute [local go_sem] max2_int min2_int max_two min_two max_three min_three max_four min_four   -- for this text's walks alone
set_option linter.unusedVariables false
set_option linter.unusedSimpArgs false
structure S41 where
  f0 : Int
  f1 : Int
  f2 : Int
  f3 : Int
def z41 : S41 := ⟨(0 : Int), (0 : Int), (0 : Int), (0 : Int)⟩
def k41 : Kd S41 := Kd.iso (Kd.pair (Kd.int .u8) (Kd.pair (Kd.int .i64) (Kd.pair (Kd.int .i64) (Kd.int .i64)))) (fun x : S41 => (x.f0, x.f1, x.f2, x.f3))
theorem k41_open {w : World} {x : S41} {cs : List Value} (h : k41.K w x cs) : cs = [.int .u8 x.f0, .int .i64 x.f1, .int .i64 x.f2, .int .i64 x.f3] := by
  obtain ⟨_, _, rfl, rfl, ⟨_, _, rfl, rfl, ⟨_, _, rfl, rfl, rfl⟩⟩⟩ := h
  exact rfl
theorem k41_openM {w : World} {base : Nat} {ok : Nat → Prop} {x : S41} {cs : List Value} (h : k41.M w base ok x cs) : cs = [.int .u8 x.f0, .int .i64 x.f1, .int .i64 x.f2, .int .i64 x.f3] := by
  obtain ⟨_, _, rfl, rfl, ⟨_, _, rfl, rfl, ⟨_, _, rfl, rfl, rfl⟩⟩⟩ := h
  exact rfl
theorem k41_mk (w : World) (x : S41)  : k41.K w x [.int .u8 x.f0, .int .i64 x.f1, .int .i64 x.f2, .int .i64 x.f3] := ⟨[.int .u8 x.f0], [.int .i64 x.f1, .int .i64 x.f2, .int .i64 x.f3], rfl, rfl, ⟨[.int .i64 x.f1], [.int .i64 x.f2, .int .i64 x.f3], rfl, rfl, ⟨[.int .i64 x.f2], [.int .i64 x.f3], rfl, rfl, rfl⟩⟩⟩
theorem k41_mkM (w : World) (base : Nat) (ok : Nat → Prop) (x : S41)  : k41.M w base ok x [.int .u8 x.f0, .int .i64 x.f1, .int .i64 x.f2, .int .i64 x.f3] := ⟨[.int .u8 x.f0], [.int .i64 x.f1, .int .i64 x.f2, .int .i64 x.f3], rfl, rfl, ⟨[.int .i64 x.f1], [.int .i64 x.f2, .int .i64 x.f3], rfl, rfl, ⟨[.int .i64 x.f2], [.int .i64 x.f3], rfl, rfl, rfl⟩⟩⟩
def rd_T41 (xs : List S41) (i : Int) : S41 := xs.getD i.toNat z41
theorem at_T41 {w : World} {A : Option Addr} {n : Nat} {xs : List S41} (h : Kd.C k41 w A n xs) (i : Int) (h0 : 0 ≤ i) (h1 : i < n) : ∃ ad , A = some ad ∧ w.cell? (ad.add (i.toNat * 4)) = some (.int .u8 (rd_T41 xs i).f0) ∧ w.cell? ⟨(ad.add (i.toNat * 4)).block, (ad.add (i.toNat * 4)).off + 1, none⟩ = some (.int .i64 (rd_T41 xs i).f1) ∧ w.cell? ⟨(ad.add (i.toNat * 4)).block, (ad.add (i.toNat * 4)).off + 2, none⟩ = some (.int .i64 (rd_T41 xs i).f2) ∧ w.cell? ⟨(ad.add (i.toNat * 4)).block, (ad.add (i.toNat * 4)).off + 3, none⟩ = some (.int .i64 (rd_T41 xs i).f3) := by
  obtain ⟨ad, c, e, _, hK, hc0⟩ := Kd.C_get h z41 i h0 h1
  have hc : ∀ j u, c[j]? = some u → w.cell? (ad.add (i.toNat * 4 + j)) = some u := hc0
  obtain rfl := k41_open hK
  exact ⟨ad, e, hc 0 _ rfl, by rw [← add_field _ _ 1 (by omega)]; exact hc 1 _ rfl, by rw [← add_field _ _ 2 (by omega)]; exact hc 2 _ rfl, by rw [← add_field _ _ 3 (by omega)]; exact hc 3 _ rfl⟩
structure S37 where
  f0 : ByteArray
  f1 : Bool
  f2 : Int
  f3 : Int
  f4 : (List S41)
  f5 : ByteArray
def z37 : S37 := ⟨(⟨#[]⟩ : ByteArray), false, (0 : Int), (0 : Int), ([] : List S41), (⟨#[]⟩ : ByteArray)⟩
def k37 : Kd S37 := Kd.iso (Kd.pair Kd.string (Kd.pair Kd.bool (Kd.pair (Kd.int .i64) (Kd.pair (Kd.int .i64) (Kd.pair (Kd.slice 41 k41) Kd.string))))) (fun x : S37 => (x.f0, x.f1, x.f2, x.f3, x.f4, x.f5))
theorem k37_open {w : World} {x : S37} {cs : List Value} (h : k37.K w x cs) : ∃ A4 c4, cs = [.string x.f0, .bool x.f1, .int .i64 x.f2, .int .i64 x.f3, .slice A4 x.f4.length c4, .string x.f5] ∧ x.f4.length ≤ c4 ∧ k41.C w A4 x.f4.length x.f4 := by
  obtain ⟨_, _, rfl, rfl, ⟨_, _, rfl, rfl, ⟨_, _, rfl, rfl, ⟨_, _, rfl, rfl, ⟨_, _, rfl, ⟨A4, c4, rfl, l4, g4⟩, rfl⟩⟩⟩⟩⟩ := h
  exact ⟨A4, c4, rfl, l4, g4⟩
theorem k37_mk (w : World) (x : S37) {A4 : Option Addr} {c4 : Nat} (l4 : x.f4.length ≤ c4) (g4 : k41.C w A4 x.f4.length x.f4) : k37.K w x [.string x.f0, .bool x.f1, .int .i64 x.f2, .int .i64 x.f3, .slice A4 x.f4.length c4, .string x.f5] := ⟨[.string x.f0], [.bool x.f1, .int .i64 x.f2, .int .i64 x.f3, .slice A4 x.f4.length c4, .string x.f5], rfl, rfl, ⟨[.bool x.f1], [.int .i64 x.f2, .int .i64 x.f3, .slice A4 x.f4.length c4, .string x.f5], rfl, rfl, ⟨[.int .i64 x.f2], [.int .i64 x.f3, .slice A4 x.f4.length c4, .string x.f5], rfl, rfl, ⟨[.int .i64 x.f3], [.slice A4 x.f4.length c4, .string x.f5], rfl, rfl, ⟨[.slice A4 x.f4.length c4], [.string x.f5], rfl, ⟨A4, c4, rfl, l4, g4⟩, rfl⟩⟩⟩⟩⟩
theorem k37_openF {W : World} {ok : Nat → Prop} {x : S37} {cs : List Value} (h : Kd.FK k37 W ok x cs) : ∃ A4 c4, cs = [.string x.f0, .bool x.f1, .int .i64 x.f2, .int .i64 x.f3, .slice A4 x.f4.length c4, .string x.f5] ∧ x.f4.length ≤ c4 ∧ Kd.F k41 W ok A4 x.f4.length x.f4 := by
  obtain ⟨A4, c4, rfl, l4, _⟩ := k37_open (Kd.FK_now h)
  exact ⟨A4, c4, rfl, l4, (fun W' hW => by obtain ⟨A4_, c4_, he, l4_, g4_⟩ := k37_open (h W' hW); injection (Option.some.inj (show some (Value.slice A4 x.f4.length c4) = some (Value.slice A4_ x.f4.length c4_) from congrArg (fun l => l[4]?) he)) with ha_ _ _; rw [ha_]; exact g4_)⟩
theorem k37_mkF (W : World) (ok : Nat → Prop) (x : S37) {A4 : Option Addr} {c4 : Nat} (l4 : x.f4.length ≤ c4) (g4 : Kd.F k41 W ok A4 x.f4.length x.f4) : Kd.FK k37 W ok x [.string x.f0, .bool x.f1, .int .i64 x.f2, .int .i64 x.f3, .slice A4 x.f4.length c4, .string x.f5] := fun W2 hW => k37_mk W2 x l4 (g4 W2 hW)
def rd_T37 (xs : List S37) (i : Int) : S37 := xs.getD i.toNat z37
theorem at_T37 {w : World} {A : Option Addr} {n : Nat} {xs : List S37} (h : Kd.C k37 w A n xs) (i : Int) (h0 : 0 ≤ i) (h1 : i < n) : ∃ ad A4 c4, A = some ad ∧ w.cell? (ad.add (i.toNat * 6)) = some (.string (rd_T37 xs i).f0) ∧ w.cell? ⟨(ad.add (i.toNat * 6)).block, (ad.add (i.toNat * 6)).off + 1, none⟩ = some (.bool (rd_T37 xs i).f1) ∧ w.cell? ⟨(ad.add (i.toNat * 6)).block, (ad.add (i.toNat * 6)).off + 2, none⟩ = some (.int .i64 (rd_T37 xs i).f2) ∧ w.cell? ⟨(ad.add (i.toNat * 6)).block, (ad.add (i.toNat * 6)).off + 3, none⟩ = some (.int .i64 (rd_T37 xs i).f3) ∧ w.cell? ⟨(ad.add (i.toNat * 6)).block, (ad.add (i.toNat * 6)).off + 4, none⟩ = some (.slice A4 (rd_T37 xs i).f4.length c4) ∧ w.cell? ⟨(ad.add (i.toNat * 6)).block, (ad.add (i.toNat * 6)).off + 5, none⟩ = some (.string (rd_T37 xs i).f5) ∧ (rd_T37 xs i).f4.length ≤ c4 ∧ k41.C w A4 (rd_T37 xs i).f4.length (rd_T37 xs i).f4 := by
  obtain ⟨ad, c, e, _, hK, hc0⟩ := Kd.C_get h z37 i h0 h1
  have hc : ∀ j u, c[j]? = some u → w.cell? (ad.add (i.toNat * 6 + j)) = some u := hc0
  obtain ⟨A4, c4, rfl, l4, g4⟩ := k37_open hK
  exact ⟨ad, A4, c4, e, hc 0 _ rfl, by rw [← add_field _ _ 1 (by omega)]; exact hc 1 _ rfl, by rw [← add_field _ _ 2 (by omega)]; exact hc 2 _ rfl, by rw [← add_field _ _ 3 (by omega)]; exact hc 3 _ rfl, by rw [← add_field _ _ 4 (by omega)]; exact hc 4 _ rfl, by rw [← add_field _ _ 5 (by omega)]; exact hc 5 _ rfl, l4, g4⟩
set_option linter.unusedSimpArgs false
theorem eqA41 (d : Nat) (w : World) (x0 y0 : Int) (x1 y1 : Int) (x2 y2 : Int) (x3 y3 : Int) :
    (Op.equalIn (d + 2) 41 (.agg #[.int .u8 x0, .int .i64 x1, .int .i64 x2, .int .i64 x3]) (.agg #[.int .u8 y0, .int .i64 y1, .int .i64 y2, .int .i64 y3])).run Tryz.prog w = .ok (x0 == y0 && (x1 == y1 && (x2 == y2 && (x3 == y3)))) w := by
  refine eqA_of Tryz.underlying41 (by kernel_rfl) ?_
  refine eqf_cons (by rfl) (by go_simp; rfl) (by go_simp; rfl) (by go_simp) ?_
  refine eqf_cons (by rfl) (by go_simp; rfl) (by go_simp; rfl) (by go_simp) ?_
  refine eqf_cons (by rfl) (by go_simp; rfl) (by go_simp; rfl) (by go_simp) ?_
  exact eqf_last (by rfl) (by go_simp; rfl) (by go_simp; rfl) (by go_simp)
attribute [local go_sem] leq_spell
attribute [local go_sem high] eqA41
mutual
 def bellmanref18_Same.j0 : Nat → Bool → ByteArray → Bool → Int → Int → List (S41) → ByteArray → ByteArray → Bool → Int → Int → List (S41) → ByteArray → Option (Bool)
 | 0, _, _, _, _, _, _, _, _, _, _, _, _, _ => none
 | k + 1, x47, x333000, x333001, x333002, x333003, x333004, x333005, x334000, x334001, x334002, x334003, x334004, x334005 => if x47 = true then (some false) else (bellmanref18_Same.l0 k (x333004.length : Int) 0 x333000 x333001 x333002 x333003 x333004 x333005 x334000 x334001 x334002 x334003 x334004 x334005)
 def bellmanref18_Same.l0 : Nat → Int → Int → ByteArray → Bool → Int → Int → List (S41) → ByteArray → ByteArray → Bool → Int → Int → List (S41) → ByteArray → Option (Bool)
 | 0, _, _, _, _, _, _, _, _, _, _, _, _, _, _ => none
 | k + 1, x50, x51, x333000, x333001, x333002, x333003, x333004, x333005, x334000, x334001, x334002, x334003, x334004, x334005 => if x51 < x50 then (if 0 ≤ x51 then (if x51 < (x333004.length : Int) then (if x51 < (x334004.length : Int) then (if (!(((rd_T41 x333004 x51).f0) == ((rd_T41 x334004 x51).f0)) || (!(((rd_T41 x333004 x51).f1) == ((rd_T41 x334004 x51).f1)) || (!(((rd_T41 x333004 x51).f2) == ((rd_T41 x334004 x51).f2)) || (!(((rd_T41 x333004 x51).f3) == ((rd_T41 x334004 x51).f3)))))) = true then (some false) else (bellmanref18_Same.l0 k x50 (wrap64 (x51 + 1)) x333000 x333001 x333002 x333003 x333004 x333005 x334000 x334001 x334002 x334003 x334004 x334005)) else (none)) else (none)) else (none)) else (some true)
end
def bellmanref18_Same.f (k : Nat) (a0_0 : ByteArray) (a0_1 : Bool) (a0_2 : Int) (a0_3 : Int) (l0_4 : List (S41)) (a0_5 : ByteArray) (a1_0 : ByteArray) (a1_1 : Bool) (a1_2 : Int) (a1_3 : Int) (l1_4 : List (S41)) (a1_5 : ByteArray) : Option (Bool) := if a0_0.toList = a1_0.toList then (if (a0_1 != a1_1) = true then (bellmanref18_Same.j0 k true a0_0 a0_1 a0_2 a0_3 l0_4 a0_5 a1_0 a1_1 a1_2 a1_3 l1_4 a1_5) else (if a0_2 = a1_2 then (if a0_3 = a1_3 then (if a0_5.toList = a1_5.toList then (bellmanref18_Same.j0 k ((l0_4.length : Int) != (l1_4.length : Int)) a0_0 a0_1 a0_2 a0_3 l0_4 a0_5 a1_0 a1_1 a1_2 a1_3 l1_4 a1_5) else (bellmanref18_Same.j0 k true a0_0 a0_1 a0_2 a0_3 l0_4 a0_5 a1_0 a1_1 a1_2 a1_3 l1_4 a1_5)) else (bellmanref18_Same.j0 k true a0_0 a0_1 a0_2 a0_3 l0_4 a0_5 a1_0 a1_1 a1_2 a1_3 l1_4 a1_5)) else (bellmanref18_Same.j0 k true a0_0 a0_1 a0_2 a0_3 l0_4 a0_5 a1_0 a1_1 a1_2 a1_3 l1_4 a1_5))) else (bellmanref18_Same.j0 k true a0_0 a0_1 a0_2 a0_3 l0_4 a0_5 a1_0 a1_1 a1_2 a1_3 l1_4 a1_5)
set_option maxHeartbeats 8000000 in
set_option maxRecDepth 100000 in
theorem bellmanref18_Same.calls (k : Nat) (a0_0 : ByteArray) (a0_1 : Bool) (a0_2 : Int) (a0_3 : Int) (A0_4 : Option Addr) (c0_4 : Nat) (l0_4 : List (S41)) (a0_5 : ByteArray) (a1_0 : ByteArray) (a1_1 : Bool) (a1_2 : Int) (a1_3 : Int) (A1_4 : Option Addr) (c1_4 : Nat) (l1_4 : List (S41)) (a1_5 : ByteArray) (r : Bool) (w : World) (hr0_4 : Kd.C k41 w A0_4 l0_4.length l0_4) (hc0_4 : l0_4.length ≤ c0_4) (hr1_4 : Kd.C k41 w A1_4 l1_4.length l1_4) (hc1_4 : l1_4.length ≤ c1_4) (h : bellmanref18_Same.f k a0_0 a0_1 a0_2 a0_3 l0_4 a0_5 a1_0 a1_1 a1_2 a1_3 l1_4 a1_5 = some r) :
  Calls Tryz.prog 29 #[.agg #[.string a0_0, .bool a0_1, .int .i64 a0_2, .int .i64 a0_3, .slice A0_4 l0_4.length c0_4, .string a0_5], .agg #[.string a1_0, .bool a1_1, .int .i64 a1_2, .int .i64 a1_3, .slice A1_4 l1_4.length c1_4, .string a1_5]] w fun e w' => e = .returned (.bool r) ∧ Below w.heap.size w w' := by
 have hu37 := Tryz.underlying37
 have hu41 := Tryz.underlying41
 have HR0_4 := Aside0.mk hr0_4
 have HC0_4 := Aside0.mk hc0_4
 clear hr0_4 hc0_4
 have HR1_4 := Aside0.mk hr1_4
 have HC1_4 := Aside0.mk hc1_4
 clear hr1_4 hc1_4
 have HB := Aside0.mk (Below.refl w.heap.size w)
 have H : (if a0_0.toList = a1_0.toList then (if (a0_1 != a1_1) = true then (bellmanref18_Same.j0 k true a0_0 a0_1 a0_2 a0_3 l0_4 a0_5 a1_0 a1_1 a1_2 a1_3 l1_4 a1_5) else (if a0_2 = a1_2 then (if a0_3 = a1_3 then (if a0_5.toList = a1_5.toList then (bellmanref18_Same.j0 k ((l0_4.length : Int) != (l1_4.length : Int)) a0_0 a0_1 a0_2 a0_3 l0_4 a0_5 a1_0 a1_1 a1_2 a1_3 l1_4 a1_5) else (bellmanref18_Same.j0 k true a0_0 a0_1 a0_2 a0_3 l0_4 a0_5 a1_0 a1_1 a1_2 a1_3 l1_4 a1_5)) else (bellmanref18_Same.j0 k true a0_0 a0_1 a0_2 a0_3 l0_4 a0_5 a1_0 a1_1 a1_2 a1_3 l1_4 a1_5)) else (bellmanref18_Same.j0 k true a0_0 a0_1 a0_2 a0_3 l0_4 a0_5 a1_0 a1_1 a1_2 a1_3 l1_4 a1_5))) else (bellmanref18_Same.j0 k true a0_0 a0_1 a0_2 a0_3 l0_4 a0_5 a1_0 a1_1 a1_2 a1_3 l1_4 a1_5)) = some r := h
 clear h
 have HC3 := Aside0.mk H
 clear H
 go_enter Tryz.func29, Tryz.ntmps29
 go_upto_region 1 with (first | ((with_reducible refine gate_dst (N := 2) rfl ?_); (try (refine gate_guard (by rfl) ?_; dsimp only)); refine box_event ?hg (N := 2) ?hd (cs := #[.string a0_0, .bool a0_1, .int .i64 a0_2, .int .i64 a0_3, .slice A0_4 l0_4.length c0_4, .string a0_5]) (t := 37) ?hr ?_; (case hd => rfl); (case hg => rfl); (case hr => first | (go_simp; done) | (go_simp; rfl)); intro gb332 hg w4 hbox hb; have n0_ := Aside0.mk (below_step (belS HB.out) hb); have n1_ := Aside0.mk (hbox); have n2_ := Aside0.mk ((by rw [hg]; exact (below_size (belS HB.out)) : w.heap.size ≤ gb332)); have n3_ := Aside0.mk ((by rw [hg]; exact (below_size (belS HB.out)) : w.heap.size ≤ gb332)); clear HB; have HB := n0_; have BK332 := n1_; have GW332 := n2_; have GE332 := n3_; clear n0_ n1_ n2_ n3_; clear hb hbox hg) | ((with_reducible refine gate_dst (N := 3) rfl ?_); (try (refine gate_guard (by rfl) ?_; dsimp only)); refine box_event ?hg (N := 3) ?hd (cs := #[.string a1_0, .bool a1_1, .int .i64 a1_2, .int .i64 a1_3, .slice A1_4 l1_4.length c1_4, .string a1_5]) (t := 37) ?hr ?_; (case hd => rfl); (case hg => rfl); (case hr => first | (go_simp; done) | (go_simp; rfl)); intro gb333 hg w5 hbox hb; have n0_ := Aside0.mk (blk_below (g := gb332) (o := .cells #[.string a0_0, .bool a0_1, .int .i64 a0_2, .int .i64 a0_3, .slice A0_4 l0_4.length c0_4, .string a0_5] 37 (0, 0)) (blkS BK332.out) hb); have n1_ := Aside0.mk (below_step (by repeat (first | (with_reducible first | exact HB.out | apply below_alloc | apply pw_below_drewN | apply below_drew1 | refine below_set ?_ GE332.out) | exact HB.out)) hb); have n2_ := Aside0.mk (hbox); have n3_ := Aside0.mk ((by rw [hg]; exact (below_size (by repeat (first | (with_reducible first | exact HB.out | apply below_alloc | apply pw_below_drewN | apply below_drew1 | refine below_set ?_ GE332.out) | exact HB.out))) : w.heap.size ≤ gb333)); have n4_ := Aside0.mk ((by rw [hg]; exact (below_size (by repeat (first | (with_reducible first | exact HB.out | apply below_alloc | apply pw_below_drewN | apply below_drew1 | refine below_set ?_ GE332.out) | exact HB.out))) : w.heap.size ≤ gb333)); have n5_ := Aside0.mk ((by rw [hg]; exact Nat.ne_of_lt (blk_lt (g := gb332) (o := .cells #[.string a0_0, .bool a0_1, .int .i64 a0_2, .int .i64 a0_3, .slice A0_4 l0_4.length c0_4, .string a0_5] 37 (0, 0)) (blkS BK332.out)) : gb332 ≠ gb333)); have n6_ := Aside0.mk ((by rw [hg]; exact Nat.ne_of_gt (blk_lt (g := gb332) (o := .cells #[.string a0_0, .bool a0_1, .int .i64 a0_2, .int .i64 a0_3, .slice A0_4 l0_4.length c0_4, .string a0_5] 37 (0, 0)) (blkS BK332.out)) : gb333 ≠ gb332)); clear BK332; clear HB; have BK332 := n0_; have HB := n1_; have BK333 := n2_; have GW333 := n3_; have GE333 := n4_; have NB332_333 := n5_; have NB333_332 := n6_; clear n0_ n1_ n2_ n3_ n4_ n5_ n6_; clear hb hbox hg))
 repeat (go_quiet (first | ((with_reducible refine gate_dst (N := 2) rfl ?_); (try (refine gate_guard (by rfl) ?_; dsimp only)); refine box_event ?hg (N := 2) ?hd (cs := #[.string a0_0, .bool a0_1, .int .i64 a0_2, .int .i64 a0_3, .slice A0_4 l0_4.length c0_4, .string a0_5]) (t := 37) ?hr ?_; (case hd => rfl); (case hg => rfl); (case hr => first | (go_simp; done) | (go_simp; rfl)); intro gb332 hg w4 hbox hb; have n0_ := Aside0.mk (below_step (belS HB.out) hb); have n1_ := Aside0.mk (hbox); have n2_ := Aside0.mk ((by rw [hg]; exact (below_size (belS HB.out)) : w.heap.size ≤ gb332)); have n3_ := Aside0.mk ((by rw [hg]; exact (below_size (belS HB.out)) : w.heap.size ≤ gb332)); clear HB; have HB := n0_; have BK332 := n1_; have GW332 := n2_; have GE332 := n3_; clear n0_ n1_ n2_ n3_; clear hb hbox hg) | ((with_reducible refine gate_dst (N := 3) rfl ?_); (try (refine gate_guard (by rfl) ?_; dsimp only)); refine box_event ?hg (N := 3) ?hd (cs := #[.string a1_0, .bool a1_1, .int .i64 a1_2, .int .i64 a1_3, .slice A1_4 l1_4.length c1_4, .string a1_5]) (t := 37) ?hr ?_; (case hd => rfl); (case hg => rfl); (case hr => first | (go_simp; done) | (go_simp; rfl)); intro gb333 hg w5 hbox hb; have n0_ := Aside0.mk (blk_below (g := gb332) (o := .cells #[.string a0_0, .bool a0_1, .int .i64 a0_2, .int .i64 a0_3, .slice A0_4 l0_4.length c0_4, .string a0_5] 37 (0, 0)) (blkS BK332.out) hb); have n1_ := Aside0.mk (below_step (by repeat (first | (with_reducible first | exact HB.out | apply below_alloc | apply pw_below_drewN | apply below_drew1 | refine below_set ?_ GE332.out) | exact HB.out)) hb); have n2_ := Aside0.mk (hbox); have n3_ := Aside0.mk ((by rw [hg]; exact (below_size (by repeat (first | (with_reducible first | exact HB.out | apply below_alloc | apply pw_below_drewN | apply below_drew1 | refine below_set ?_ GE332.out) | exact HB.out))) : w.heap.size ≤ gb333)); have n4_ := Aside0.mk ((by rw [hg]; exact (below_size (by repeat (first | (with_reducible first | exact HB.out | apply below_alloc | apply pw_below_drewN | apply below_drew1 | refine below_set ?_ GE332.out) | exact HB.out))) : w.heap.size ≤ gb333)); have n5_ := Aside0.mk ((by rw [hg]; exact Nat.ne_of_lt (blk_lt (g := gb332) (o := .cells #[.string a0_0, .bool a0_1, .int .i64 a0_2, .int .i64 a0_3, .slice A0_4 l0_4.length c0_4, .string a0_5] 37 (0, 0)) (blkS BK332.out)) : gb332 ≠ gb333)); have n6_ := Aside0.mk ((by rw [hg]; exact Nat.ne_of_gt (blk_lt (g := gb332) (o := .cells #[.string a0_0, .bool a0_1, .int .i64 a0_2, .int .i64 a0_3, .slice A0_4 l0_4.length c0_4, .string a0_5] 37 (0, 0)) (blkS BK332.out)) : gb333 ≠ gb332)); clear BK332; clear HB; have BK332 := n0_; have HB := n1_; have BK333 := n2_; have GW333 := n3_; have GE333 := n4_; have NB332_333 := n5_; have NB333_332 := n6_; clear n0_ n1_ n2_ n3_ n4_ n5_ n6_; clear hb hbox hg)); go_upto_region 1 with (first | ((with_reducible refine gate_dst (N := 2) rfl ?_); (try (refine gate_guard (by rfl) ?_; dsimp only)); refine box_event ?hg (N := 2) ?hd (cs := #[.string a0_0, .bool a0_1, .int .i64 a0_2, .int .i64 a0_3, .slice A0_4 l0_4.length c0_4, .string a0_5]) (t := 37) ?hr ?_; (case hd => rfl); (case hg => rfl); (case hr => first | (go_simp; done) | (go_simp; rfl)); intro gb332 hg w4 hbox hb; have n0_ := Aside0.mk (below_step (belS HB.out) hb); have n1_ := Aside0.mk (hbox); have n2_ := Aside0.mk ((by rw [hg]; exact (below_size (belS HB.out)) : w.heap.size ≤ gb332)); have n3_ := Aside0.mk ((by rw [hg]; exact (below_size (belS HB.out)) : w.heap.size ≤ gb332)); clear HB; have HB := n0_; have BK332 := n1_; have GW332 := n2_; have GE332 := n3_; clear n0_ n1_ n2_ n3_; clear hb hbox hg) | ((with_reducible refine gate_dst (N := 3) rfl ?_); (try (refine gate_guard (by rfl) ?_; dsimp only)); refine box_event ?hg (N := 3) ?hd (cs := #[.string a1_0, .bool a1_1, .int .i64 a1_2, .int .i64 a1_3, .slice A1_4 l1_4.length c1_4, .string a1_5]) (t := 37) ?hr ?_; (case hd => rfl); (case hg => rfl); (case hr => first | (go_simp; done) | (go_simp; rfl)); intro gb333 hg w5 hbox hb; have n0_ := Aside0.mk (blk_below (g := gb332) (o := .cells #[.string a0_0, .bool a0_1, .int .i64 a0_2, .int .i64 a0_3, .slice A0_4 l0_4.length c0_4, .string a0_5] 37 (0, 0)) (blkS BK332.out) hb); have n1_ := Aside0.mk (below_step (by repeat (first | (with_reducible first | exact HB.out | apply below_alloc | apply pw_below_drewN | apply below_drew1 | refine below_set ?_ GE332.out) | exact HB.out)) hb); have n2_ := Aside0.mk (hbox); have n3_ := Aside0.mk ((by rw [hg]; exact (below_size (by repeat (first | (with_reducible first | exact HB.out | apply below_alloc | apply pw_below_drewN | apply below_drew1 | refine below_set ?_ GE332.out) | exact HB.out))) : w.heap.size ≤ gb333)); have n4_ := Aside0.mk ((by rw [hg]; exact (below_size (by repeat (first | (with_reducible first | exact HB.out | apply below_alloc | apply pw_below_drewN | apply below_drew1 | refine below_set ?_ GE332.out) | exact HB.out))) : w.heap.size ≤ gb333)); have n5_ := Aside0.mk ((by rw [hg]; exact Nat.ne_of_lt (blk_lt (g := gb332) (o := .cells #[.string a0_0, .bool a0_1, .int .i64 a0_2, .int .i64 a0_3, .slice A0_4 l0_4.length c0_4, .string a0_5] 37 (0, 0)) (blkS BK332.out)) : gb332 ≠ gb333)); have n6_ := Aside0.mk ((by rw [hg]; exact Nat.ne_of_gt (blk_lt (g := gb332) (o := .cells #[.string a0_0, .bool a0_1, .int .i64 a0_2, .int .i64 a0_3, .slice A0_4 l0_4.length c0_4, .string a0_5] 37 (0, 0)) (blkS BK332.out)) : gb333 ≠ gb332)); clear BK332; clear HB; have BK332 := n0_; have HB := n1_; have BK333 := n2_; have GW333 := n3_; have GE333 := n4_; have NB332_333 := n5_; have NB333_332 := n6_; clear n0_ n1_ n2_ n3_ n4_ n5_ n6_; clear hb hbox hg)))
 (try simp only [Act.put, List.setIfInBounds_toArray, List.set_cons_zero, List.set_cons_succ])
 go_cut [47] (fun v47 wc => ∃ (kq : Nat) (x47_2 : Bool), v47 = .bool x47_2 ∧ Aside0 (bellmanref18_Same.j0 kq x47_2 a0_0 a0_1 a0_2 a0_3 l0_4 a0_5 a1_0 a1_1 a1_2 a1_3 l1_4 a1_5 = some r) ∧ Aside0 (kq ≤ k) ∧ Aside0 (wc.heap[gb332]? = some (.cells #[.string a0_0, .bool a0_1, .int .i64 a0_2, .int .i64 a0_3, (.slice A0_4 l0_4.length c0_4), .string a0_5] 37 (0, 0))) ∧ Aside0 (wc.heap[gb333]? = some (.cells #[.string a1_0, .bool a1_1, .int .i64 a1_2, .int .i64 a1_3, (.slice A1_4 l1_4.length c1_4), .string a1_5] 37 (0, 0))) ∧ Aside0 (Below w.heap.size w wc))
 case first =>
  have H := HC3.out
  clear HC3
  by_cases c6 : a0_0.toList = a1_0.toList
  ·rw [if_pos c6] at H
   have c6b0 : (a0_0.toList == a1_0.toList) = true := beq_iff_eq.mpr c6
   have c6b1 : (a0_0.toList != a1_0.toList) = false := bne_eq_false_iff_eq.mpr c6
   clear c6
   (first | rw [c6b0] | (simp only [i64_w, i32_w]; rw [c6b0]) | skip)
   by_cases c7 : (a0_1 != a1_1) = true
   ·rw [if_pos c7] at H
    have c7b0 : (a0_1 != a1_1) = true := c7
    (try (have c7b1 : decide (a0_1 = a1_1) = false := by simpa using c7))
    (try (have c7b2 : (a0_1 == a1_1) = false := by simpa using c7))
    (try (have c7b3 : ¬ (a0_1 = a1_1) := by simpa using c7))
    clear c7
    have H' := Aside0.mk H
    clear H
    have hnb8 := NB332_333.out
    have hnc8 := NB333_332.out
    have hcz9_0 : w5.cell? ⟨gb332, 0, none⟩ = some (.string a0_0) := (blk_cell BK332.out 0).trans rfl
    have hcz9_1 : w5.cell? ⟨gb332, 1, none⟩ = some (.bool a0_1) := (blk_cell BK332.out 1).trans rfl
    have hcz9_2 : w5.cell? ⟨gb332, 2, none⟩ = some (.int .i64 a0_2) := (blk_cell BK332.out 2).trans rfl
    have hcz9_3 : w5.cell? ⟨gb332, 3, none⟩ = some (.int .i64 a0_3) := (blk_cell BK332.out 3).trans rfl
    have hcz9_4 : w5.cell? ⟨gb332, 4, none⟩ = some (.slice A0_4 l0_4.length c0_4) := (blk_cell BK332.out 4).trans rfl
    have hcz9_5 : w5.cell? ⟨gb332, 5, none⟩ = some (.string a0_5) := (blk_cell BK332.out 5).trans rfl
    have hfz9_0 := blk_frozen BK332.out 0
    have hfz9_1 := blk_frozen BK332.out 1
    have hfz9_2 := blk_frozen BK332.out 2
    have hfz9_3 := blk_frozen BK332.out 3
    have hfz9_4 := blk_frozen BK332.out 4
    have hfz9_5 := blk_frozen BK332.out 5
    have hcz10_0 : w5.cell? ⟨gb333, 0, none⟩ = some (.string a1_0) := (blk_cell BK333.out 0).trans rfl
    have hcz10_1 : w5.cell? ⟨gb333, 1, none⟩ = some (.bool a1_1) := (blk_cell BK333.out 1).trans rfl
    have hcz10_2 : w5.cell? ⟨gb333, 2, none⟩ = some (.int .i64 a1_2) := (blk_cell BK333.out 2).trans rfl
    have hcz10_3 : w5.cell? ⟨gb333, 3, none⟩ = some (.int .i64 a1_3) := (blk_cell BK333.out 3).trans rfl
    have hcz10_4 : w5.cell? ⟨gb333, 4, none⟩ = some (.slice A1_4 l1_4.length c1_4) := (blk_cell BK333.out 4).trans rfl
    have hcz10_5 : w5.cell? ⟨gb333, 5, none⟩ = some (.string a1_5) := (blk_cell BK333.out 5).trans rfl
    have hfz10_0 := blk_frozen BK333.out 0
    have hfz10_1 := blk_frozen BK333.out 1
    have hfz10_2 := blk_frozen BK333.out 2
    have hfz10_3 := blk_frozen BK333.out 3
    have hfz10_4 := blk_frozen BK333.out 4
    have hfz10_5 := blk_frozen BK333.out 5
    go_wp2
    repeat (go_quiet (fail); try go_wp2)
    go_meet
    case rel => exact ⟨_, (true), (by first | rfl | (simp; done) | (simp [*]; done)), H', ⟨by first | omega | exact Nat.le_refl _⟩, ⟨by (with_reducible repeat (first | refine blk_drewN ?_ _ | refine blk_drew ?_ | refine blk_alloc ?_ _)); exact BK332.out⟩, ⟨by (with_reducible repeat (first | refine blk_drewN ?_ _ | refine blk_drew ?_ | refine blk_alloc ?_ _)); exact BK333.out⟩, ⟨by repeat (first | (with_reducible first | exact HB.out | apply below_alloc | apply pw_below_drewN | apply below_drew1 | refine below_set ?_ GE332.out | refine below_set ?_ GE333.out) | exact HB.out)⟩⟩
   ·rw [if_neg c7] at H
    have c7b0 : (a0_1 != a1_1) = false := by simpa using c7
    (try (have c7b1 : decide (a0_1 = a1_1) = true := by simpa using c7))
    (try (have c7b2 : (a0_1 == a1_1) = true := by simpa using c7))
    clear c7
    by_cases c11 : a0_2 = a1_2
    ·rw [if_pos c11] at H
     have c11b0 : (a0_2 == a1_2) = true := beq_iff_eq.mpr c11
     have c11b1 : (a0_2 != a1_2) = false := bne_eq_false_iff_eq.mpr c11
     clear c11
     by_cases c12 : a0_3 = a1_3
     ·rw [if_pos c12] at H
      have c12b0 : (a0_3 == a1_3) = true := beq_iff_eq.mpr c12
      have c12b1 : (a0_3 != a1_3) = false := bne_eq_false_iff_eq.mpr c12
      clear c12
      by_cases c13 : a0_5.toList = a1_5.toList
      ·rw [if_pos c13] at H
       have c13b0 : (a0_5.toList == a1_5.toList) = true := beq_iff_eq.mpr c13
       have c13b1 : (a0_5.toList != a1_5.toList) = false := bne_eq_false_iff_eq.mpr c13
       clear c13
       have H' := Aside0.mk H
       clear H
       have hnb14 := NB332_333.out
       have hnc14 := NB333_332.out
       have hcz15_0 : w5.cell? ⟨gb332, 0, none⟩ = some (.string a0_0) := (blk_cell BK332.out 0).trans rfl
       have hcz15_1 : w5.cell? ⟨gb332, 1, none⟩ = some (.bool a0_1) := (blk_cell BK332.out 1).trans rfl
       have hcz15_2 : w5.cell? ⟨gb332, 2, none⟩ = some (.int .i64 a0_2) := (blk_cell BK332.out 2).trans rfl
       have hcz15_3 : w5.cell? ⟨gb332, 3, none⟩ = some (.int .i64 a0_3) := (blk_cell BK332.out 3).trans rfl
       have hcz15_4 : w5.cell? ⟨gb332, 4, none⟩ = some (.slice A0_4 l0_4.length c0_4) := (blk_cell BK332.out 4).trans rfl
       have hcz15_5 : w5.cell? ⟨gb332, 5, none⟩ = some (.string a0_5) := (blk_cell BK332.out 5).trans rfl
       have hfz15_0 := blk_frozen BK332.out 0
       have hfz15_1 := blk_frozen BK332.out 1
       have hfz15_2 := blk_frozen BK332.out 2
       have hfz15_3 := blk_frozen BK332.out 3
       have hfz15_4 := blk_frozen BK332.out 4
       have hfz15_5 := blk_frozen BK332.out 5
       have hcz16_0 : w5.cell? ⟨gb333, 0, none⟩ = some (.string a1_0) := (blk_cell BK333.out 0).trans rfl
       have hcz16_1 : w5.cell? ⟨gb333, 1, none⟩ = some (.bool a1_1) := (blk_cell BK333.out 1).trans rfl
       have hcz16_2 : w5.cell? ⟨gb333, 2, none⟩ = some (.int .i64 a1_2) := (blk_cell BK333.out 2).trans rfl
       have hcz16_3 : w5.cell? ⟨gb333, 3, none⟩ = some (.int .i64 a1_3) := (blk_cell BK333.out 3).trans rfl
       have hcz16_4 : w5.cell? ⟨gb333, 4, none⟩ = some (.slice A1_4 l1_4.length c1_4) := (blk_cell BK333.out 4).trans rfl
       have hcz16_5 : w5.cell? ⟨gb333, 5, none⟩ = some (.string a1_5) := (blk_cell BK333.out 5).trans rfl
       have hfz16_0 := blk_frozen BK333.out 0
       have hfz16_1 := blk_frozen BK333.out 1
       have hfz16_2 := blk_frozen BK333.out 2
       have hfz16_3 := blk_frozen BK333.out 3
       have hfz16_4 := blk_frozen BK333.out 4
       have hfz16_5 := blk_frozen BK333.out 5
       go_wp2
       repeat (go_quiet (fail); try go_wp2)
       go_meet
       case rel => exact ⟨_, (((l0_4.length : Int) != (l1_4.length : Int))), (by first | rfl | (simp; done) | (simp [*]; done)), H', ⟨by first | omega | exact Nat.le_refl _⟩, ⟨by (with_reducible repeat (first | refine blk_drewN ?_ _ | refine blk_drew ?_ | refine blk_alloc ?_ _)); exact BK332.out⟩, ⟨by (with_reducible repeat (first | refine blk_drewN ?_ _ | refine blk_drew ?_ | refine blk_alloc ?_ _)); exact BK333.out⟩, ⟨by repeat (first | (with_reducible first | exact HB.out | apply below_alloc | apply pw_below_drewN | apply below_drew1 | refine below_set ?_ GE332.out | refine below_set ?_ GE333.out) | exact HB.out)⟩⟩
      ·rw [if_neg c13] at H
       have c13b0 : (a0_5.toList == a1_5.toList) = false := beq_eq_false_iff_ne.mpr c13
       have c13b1 : (a0_5.toList != a1_5.toList) = true := bne_iff_ne.mpr c13
       have H' := Aside0.mk H
       clear H
       have hnb17 := NB332_333.out
       have hnc17 := NB333_332.out
       have hcz18_0 : w5.cell? ⟨gb332, 0, none⟩ = some (.string a0_0) := (blk_cell BK332.out 0).trans rfl
       have hcz18_1 : w5.cell? ⟨gb332, 1, none⟩ = some (.bool a0_1) := (blk_cell BK332.out 1).trans rfl
       have hcz18_2 : w5.cell? ⟨gb332, 2, none⟩ = some (.int .i64 a0_2) := (blk_cell BK332.out 2).trans rfl
       have hcz18_3 : w5.cell? ⟨gb332, 3, none⟩ = some (.int .i64 a0_3) := (blk_cell BK332.out 3).trans rfl
       have hcz18_4 : w5.cell? ⟨gb332, 4, none⟩ = some (.slice A0_4 l0_4.length c0_4) := (blk_cell BK332.out 4).trans rfl
       have hcz18_5 : w5.cell? ⟨gb332, 5, none⟩ = some (.string a0_5) := (blk_cell BK332.out 5).trans rfl
       have hfz18_0 := blk_frozen BK332.out 0
       have hfz18_1 := blk_frozen BK332.out 1
       have hfz18_2 := blk_frozen BK332.out 2
       have hfz18_3 := blk_frozen BK332.out 3
       have hfz18_4 := blk_frozen BK332.out 4
       have hfz18_5 := blk_frozen BK332.out 5
       have hcz19_0 : w5.cell? ⟨gb333, 0, none⟩ = some (.string a1_0) := (blk_cell BK333.out 0).trans rfl
       have hcz19_1 : w5.cell? ⟨gb333, 1, none⟩ = some (.bool a1_1) := (blk_cell BK333.out 1).trans rfl
       have hcz19_2 : w5.cell? ⟨gb333, 2, none⟩ = some (.int .i64 a1_2) := (blk_cell BK333.out 2).trans rfl
       have hcz19_3 : w5.cell? ⟨gb333, 3, none⟩ = some (.int .i64 a1_3) := (blk_cell BK333.out 3).trans rfl
       have hcz19_4 : w5.cell? ⟨gb333, 4, none⟩ = some (.slice A1_4 l1_4.length c1_4) := (blk_cell BK333.out 4).trans rfl
       have hcz19_5 : w5.cell? ⟨gb333, 5, none⟩ = some (.string a1_5) := (blk_cell BK333.out 5).trans rfl
       have hfz19_0 := blk_frozen BK333.out 0
       have hfz19_1 := blk_frozen BK333.out 1
       have hfz19_2 := blk_frozen BK333.out 2
       have hfz19_3 := blk_frozen BK333.out 3
       have hfz19_4 := blk_frozen BK333.out 4
       have hfz19_5 := blk_frozen BK333.out 5
       go_wp2
       repeat (go_quiet (fail); try go_wp2)
       go_meet
       case rel => exact ⟨_, (true), (by first | rfl | (simp; done) | (simp [*]; done)), H', ⟨by first | omega | exact Nat.le_refl _⟩, ⟨by (with_reducible repeat (first | refine blk_drewN ?_ _ | refine blk_drew ?_ | refine blk_alloc ?_ _)); exact BK332.out⟩, ⟨by (with_reducible repeat (first | refine blk_drewN ?_ _ | refine blk_drew ?_ | refine blk_alloc ?_ _)); exact BK333.out⟩, ⟨by repeat (first | (with_reducible first | exact HB.out | apply below_alloc | apply pw_below_drewN | apply below_drew1 | refine below_set ?_ GE332.out | refine below_set ?_ GE333.out) | exact HB.out)⟩⟩
     ·rw [if_neg c12] at H
      have c12b0 : (a0_3 == a1_3) = false := beq_eq_false_iff_ne.mpr c12
      have c12b1 : (a0_3 != a1_3) = true := bne_iff_ne.mpr c12
      have H' := Aside0.mk H
      clear H
      have hnb20 := NB332_333.out
      have hnc20 := NB333_332.out
      have hcz21_0 : w5.cell? ⟨gb332, 0, none⟩ = some (.string a0_0) := (blk_cell BK332.out 0).trans rfl
      have hcz21_1 : w5.cell? ⟨gb332, 1, none⟩ = some (.bool a0_1) := (blk_cell BK332.out 1).trans rfl
      have hcz21_2 : w5.cell? ⟨gb332, 2, none⟩ = some (.int .i64 a0_2) := (blk_cell BK332.out 2).trans rfl
      have hcz21_3 : w5.cell? ⟨gb332, 3, none⟩ = some (.int .i64 a0_3) := (blk_cell BK332.out 3).trans rfl
      have hcz21_4 : w5.cell? ⟨gb332, 4, none⟩ = some (.slice A0_4 l0_4.length c0_4) := (blk_cell BK332.out 4).trans rfl
      have hcz21_5 : w5.cell? ⟨gb332, 5, none⟩ = some (.string a0_5) := (blk_cell BK332.out 5).trans rfl
      have hfz21_0 := blk_frozen BK332.out 0
      have hfz21_1 := blk_frozen BK332.out 1
      have hfz21_2 := blk_frozen BK332.out 2
      have hfz21_3 := blk_frozen BK332.out 3
      have hfz21_4 := blk_frozen BK332.out 4
      have hfz21_5 := blk_frozen BK332.out 5
      have hcz22_0 : w5.cell? ⟨gb333, 0, none⟩ = some (.string a1_0) := (blk_cell BK333.out 0).trans rfl
      have hcz22_1 : w5.cell? ⟨gb333, 1, none⟩ = some (.bool a1_1) := (blk_cell BK333.out 1).trans rfl
      have hcz22_2 : w5.cell? ⟨gb333, 2, none⟩ = some (.int .i64 a1_2) := (blk_cell BK333.out 2).trans rfl
      have hcz22_3 : w5.cell? ⟨gb333, 3, none⟩ = some (.int .i64 a1_3) := (blk_cell BK333.out 3).trans rfl
      have hcz22_4 : w5.cell? ⟨gb333, 4, none⟩ = some (.slice A1_4 l1_4.length c1_4) := (blk_cell BK333.out 4).trans rfl
      have hcz22_5 : w5.cell? ⟨gb333, 5, none⟩ = some (.string a1_5) := (blk_cell BK333.out 5).trans rfl
      have hfz22_0 := blk_frozen BK333.out 0
      have hfz22_1 := blk_frozen BK333.out 1
      have hfz22_2 := blk_frozen BK333.out 2
      have hfz22_3 := blk_frozen BK333.out 3
      have hfz22_4 := blk_frozen BK333.out 4
      have hfz22_5 := blk_frozen BK333.out 5
      go_wp2
      repeat (go_quiet (fail); try go_wp2)
      go_meet
      case rel => exact ⟨_, (true), (by first | rfl | (simp; done) | (simp [*]; done)), H', ⟨by first | omega | exact Nat.le_refl _⟩, ⟨by (with_reducible repeat (first | refine blk_drewN ?_ _ | refine blk_drew ?_ | refine blk_alloc ?_ _)); exact BK332.out⟩, ⟨by (with_reducible repeat (first | refine blk_drewN ?_ _ | refine blk_drew ?_ | refine blk_alloc ?_ _)); exact BK333.out⟩, ⟨by repeat (first | (with_reducible first | exact HB.out | apply below_alloc | apply pw_below_drewN | apply below_drew1 | refine below_set ?_ GE332.out | refine below_set ?_ GE333.out) | exact HB.out)⟩⟩
    ·rw [if_neg c11] at H
     have c11b0 : (a0_2 == a1_2) = false := beq_eq_false_iff_ne.mpr c11
     have c11b1 : (a0_2 != a1_2) = true := bne_iff_ne.mpr c11
     have H' := Aside0.mk H
     clear H
     have hnb23 := NB332_333.out
     have hnc23 := NB333_332.out
     have hcz24_0 : w5.cell? ⟨gb332, 0, none⟩ = some (.string a0_0) := (blk_cell BK332.out 0).trans rfl
     have hcz24_1 : w5.cell? ⟨gb332, 1, none⟩ = some (.bool a0_1) := (blk_cell BK332.out 1).trans rfl
     have hcz24_2 : w5.cell? ⟨gb332, 2, none⟩ = some (.int .i64 a0_2) := (blk_cell BK332.out 2).trans rfl
     have hcz24_3 : w5.cell? ⟨gb332, 3, none⟩ = some (.int .i64 a0_3) := (blk_cell BK332.out 3).trans rfl
     have hcz24_4 : w5.cell? ⟨gb332, 4, none⟩ = some (.slice A0_4 l0_4.length c0_4) := (blk_cell BK332.out 4).trans rfl
     have hcz24_5 : w5.cell? ⟨gb332, 5, none⟩ = some (.string a0_5) := (blk_cell BK332.out 5).trans rfl
     have hfz24_0 := blk_frozen BK332.out 0
     have hfz24_1 := blk_frozen BK332.out 1
     have hfz24_2 := blk_frozen BK332.out 2
     have hfz24_3 := blk_frozen BK332.out 3
     have hfz24_4 := blk_frozen BK332.out 4
     have hfz24_5 := blk_frozen BK332.out 5
     have hcz25_0 : w5.cell? ⟨gb333, 0, none⟩ = some (.string a1_0) := (blk_cell BK333.out 0).trans rfl
     have hcz25_1 : w5.cell? ⟨gb333, 1, none⟩ = some (.bool a1_1) := (blk_cell BK333.out 1).trans rfl
     have hcz25_2 : w5.cell? ⟨gb333, 2, none⟩ = some (.int .i64 a1_2) := (blk_cell BK333.out 2).trans rfl
     have hcz25_3 : w5.cell? ⟨gb333, 3, none⟩ = some (.int .i64 a1_3) := (blk_cell BK333.out 3).trans rfl
     have hcz25_4 : w5.cell? ⟨gb333, 4, none⟩ = some (.slice A1_4 l1_4.length c1_4) := (blk_cell BK333.out 4).trans rfl
     have hcz25_5 : w5.cell? ⟨gb333, 5, none⟩ = some (.string a1_5) := (blk_cell BK333.out 5).trans rfl
     have hfz25_0 := blk_frozen BK333.out 0
     have hfz25_1 := blk_frozen BK333.out 1
     have hfz25_2 := blk_frozen BK333.out 2
     have hfz25_3 := blk_frozen BK333.out 3
     have hfz25_4 := blk_frozen BK333.out 4
     have hfz25_5 := blk_frozen BK333.out 5
     go_wp2
     repeat (go_quiet (fail); try go_wp2)
     go_meet
     case rel => exact ⟨_, (true), (by first | rfl | (simp; done) | (simp [*]; done)), H', ⟨by first | omega | exact Nat.le_refl _⟩, ⟨by (with_reducible repeat (first | refine blk_drewN ?_ _ | refine blk_drew ?_ | refine blk_alloc ?_ _)); exact BK332.out⟩, ⟨by (with_reducible repeat (first | refine blk_drewN ?_ _ | refine blk_drew ?_ | refine blk_alloc ?_ _)); exact BK333.out⟩, ⟨by repeat (first | (with_reducible first | exact HB.out | apply below_alloc | apply pw_below_drewN | apply below_drew1 | refine below_set ?_ GE332.out | refine below_set ?_ GE333.out) | exact HB.out)⟩⟩
  ·rw [if_neg c6] at H
   have c6b0 : (a0_0.toList == a1_0.toList) = false := beq_eq_false_iff_ne.mpr c6
   have c6b1 : (a0_0.toList != a1_0.toList) = true := bne_iff_ne.mpr c6
   (first | rw [c6b0] | (simp only [i64_w, i32_w]; rw [c6b0]) | skip)
   have H' := Aside0.mk H
   clear H
   have hnb26 := NB332_333.out
   have hnc26 := NB333_332.out
   have hcz27_0 : w5.cell? ⟨gb332, 0, none⟩ = some (.string a0_0) := (blk_cell BK332.out 0).trans rfl
   have hcz27_1 : w5.cell? ⟨gb332, 1, none⟩ = some (.bool a0_1) := (blk_cell BK332.out 1).trans rfl
   have hcz27_2 : w5.cell? ⟨gb332, 2, none⟩ = some (.int .i64 a0_2) := (blk_cell BK332.out 2).trans rfl
   have hcz27_3 : w5.cell? ⟨gb332, 3, none⟩ = some (.int .i64 a0_3) := (blk_cell BK332.out 3).trans rfl
   have hcz27_4 : w5.cell? ⟨gb332, 4, none⟩ = some (.slice A0_4 l0_4.length c0_4) := (blk_cell BK332.out 4).trans rfl
   have hcz27_5 : w5.cell? ⟨gb332, 5, none⟩ = some (.string a0_5) := (blk_cell BK332.out 5).trans rfl
   have hfz27_0 := blk_frozen BK332.out 0
   have hfz27_1 := blk_frozen BK332.out 1
   have hfz27_2 := blk_frozen BK332.out 2
   have hfz27_3 := blk_frozen BK332.out 3
   have hfz27_4 := blk_frozen BK332.out 4
   have hfz27_5 := blk_frozen BK332.out 5
   have hcz28_0 : w5.cell? ⟨gb333, 0, none⟩ = some (.string a1_0) := (blk_cell BK333.out 0).trans rfl
   have hcz28_1 : w5.cell? ⟨gb333, 1, none⟩ = some (.bool a1_1) := (blk_cell BK333.out 1).trans rfl
   have hcz28_2 : w5.cell? ⟨gb333, 2, none⟩ = some (.int .i64 a1_2) := (blk_cell BK333.out 2).trans rfl
   have hcz28_3 : w5.cell? ⟨gb333, 3, none⟩ = some (.int .i64 a1_3) := (blk_cell BK333.out 3).trans rfl
   have hcz28_4 : w5.cell? ⟨gb333, 4, none⟩ = some (.slice A1_4 l1_4.length c1_4) := (blk_cell BK333.out 4).trans rfl
   have hcz28_5 : w5.cell? ⟨gb333, 5, none⟩ = some (.string a1_5) := (blk_cell BK333.out 5).trans rfl
   have hfz28_0 := blk_frozen BK333.out 0
   have hfz28_1 := blk_frozen BK333.out 1
   have hfz28_2 := blk_frozen BK333.out 2
   have hfz28_3 := blk_frozen BK333.out 3
   have hfz28_4 := blk_frozen BK333.out 4
   have hfz28_5 := blk_frozen BK333.out 5
   go_wp2
   repeat (go_quiet (fail); try go_wp2)
   go_meet
   case rel => exact ⟨_, (true), (by first | rfl | (simp; done) | (simp [*]; done)), H', ⟨by first | omega | exact Nat.le_refl _⟩, ⟨by (with_reducible repeat (first | refine blk_drewN ?_ _ | refine blk_drew ?_ | refine blk_alloc ?_ _)); exact BK332.out⟩, ⟨by (with_reducible repeat (first | refine blk_drewN ?_ _ | refine blk_drew ?_ | refine blk_alloc ?_ _)); exact BK333.out⟩, ⟨by repeat (first | (with_reducible first | exact HB.out | apply below_alloc | apply pw_below_drewN | apply below_drew1 | refine below_set ?_ GE332.out | refine below_set ?_ GE333.out) | exact HB.out)⟩⟩
 case rest =>
  clear HC3
  try clear c1
  try clear c2
  try clear p2
  try clear c6
  try clear c6b0
  try clear c6b1
  try clear c7
  try clear c7b0
  try clear c7b1
  try clear c7b2
  try clear c8
  try clear c11
  try clear c11b0
  try clear c11b1
  try clear c12
  try clear c12b0
  try clear c12b1
  try clear c13
  try clear c13b0
  try clear c13b1
  try clear c14
  try clear c17
  try clear c20
  try clear c23
  try clear c26
  try clear hcz10_0
  try clear hcz10_1
  try clear hcz10_2
  try clear hcz10_3
  try clear hcz10_4
  try clear hcz10_5
  try clear hcz15_0
  try clear hcz15_1
  try clear hcz15_2
  try clear hcz15_3
  try clear hcz15_4
  try clear hcz15_5
  try clear hcz16_0
  try clear hcz16_1
  try clear hcz16_2
  try clear hcz16_3
  try clear hcz16_4
  try clear hcz16_5
  try clear hcz18_0
  try clear hcz18_1
  try clear hcz18_2
  try clear hcz18_3
  try clear hcz18_4
  try clear hcz18_5
  try clear hcz19_0
  try clear hcz19_1
  try clear hcz19_2
  try clear hcz19_3
  try clear hcz19_4
  try clear hcz19_5
  try clear hcz21_0
  try clear hcz21_1
  try clear hcz21_2
  try clear hcz21_3
  try clear hcz21_4
  try clear hcz21_5
  try clear hcz22_0
  try clear hcz22_1
  try clear hcz22_2
  try clear hcz22_3
  try clear hcz22_4
  try clear hcz22_5
  try clear hcz24_0
  try clear hcz24_1
  try clear hcz24_2
  try clear hcz24_3
  try clear hcz24_4
  try clear hcz24_5
  try clear hcz25_0
  try clear hcz25_1
  try clear hcz25_2
  try clear hcz25_3
  try clear hcz25_4
  try clear hcz25_5
  try clear hcz27_0
  try clear hcz27_1
  try clear hcz27_2
  try clear hcz27_3
  try clear hcz27_4
  try clear hcz27_5
  try clear hcz28_0
  try clear hcz28_1
  try clear hcz28_2
  try clear hcz28_3
  try clear hcz28_4
  try clear hcz28_5
  try clear hcz9_0
  try clear hcz9_1
  try clear hcz9_2
  try clear hcz9_3
  try clear hcz9_4
  try clear hcz9_5
  try clear hfz10_0
  try clear hfz10_1
  try clear hfz10_2
  try clear hfz10_3
  try clear hfz10_4
  try clear hfz10_5
  try clear hfz15_0
  try clear hfz15_1
  try clear hfz15_2
  try clear hfz15_3
  try clear hfz15_4
  try clear hfz15_5
  try clear hfz16_0
  try clear hfz16_1
  try clear hfz16_2
  try clear hfz16_3
  try clear hfz16_4
  try clear hfz16_5
  try clear hfz18_0
  try clear hfz18_1
  try clear hfz18_2
  try clear hfz18_3
  try clear hfz18_4
  try clear hfz18_5
  try clear hfz19_0
  try clear hfz19_1
  try clear hfz19_2
  try clear hfz19_3
  try clear hfz19_4
  try clear hfz19_5
  try clear hfz21_0
  try clear hfz21_1
  try clear hfz21_2
  try clear hfz21_3
  try clear hfz21_4
  try clear hfz21_5
  try clear hfz22_0
  try clear hfz22_1
  try clear hfz22_2
  try clear hfz22_3
  try clear hfz22_4
  try clear hfz22_5
  try clear hfz24_0
  try clear hfz24_1
  try clear hfz24_2
  try clear hfz24_3
  try clear hfz24_4
  try clear hfz24_5
  try clear hfz25_0
  try clear hfz25_1
  try clear hfz25_2
  try clear hfz25_3
  try clear hfz25_4
  try clear hfz25_5
  try clear hfz27_0
  try clear hfz27_1
  try clear hfz27_2
  try clear hfz27_3
  try clear hfz27_4
  try clear hfz27_5
  try clear hfz28_0
  try clear hfz28_1
  try clear hfz28_2
  try clear hfz28_3
  try clear hfz28_4
  try clear hfz28_5
  try clear hfz9_0
  try clear hfz9_1
  try clear hfz9_2
  try clear hfz9_3
  try clear hfz9_4
  try clear hfz9_5
  obtain ⟨kq, x47_2, rfl, HA, HJ2, BK332, BK333, HB⟩ := hcut
  cases kq with
  | zero => exact absurd HA.out (by simp [bellmanref18_Same.j0])
  | succ kj2 =>
   have H := HA.out
   clear HA
   simp only [bellmanref18_Same.j0] at H
   by_cases c29 : x47_2 = true
   ·subst c29
    have H1 : (some false) = some r := by rw [if_pos rfl] at H; exact H
    clear H
    have H := H1
    clear H1
    obtain rfl := Option.some.inj H
    go_wp2
    repeat (go_quiet (fail); try go_wp2)
    go_ret
    exact ⟨by first | rfl | (simp [errW_none, errW_some] <;> rfl) | (simp [*, errW_none, errW_some] <;> rfl), by repeat (first | (with_reducible first | exact HB.out | apply below_alloc | apply pw_below_drewN | apply below_drew1 | refine below_set ?_ GE332.out | refine below_set ?_ GE333.out) | exact HB.out)⟩
   ·replace c29 := Bool.eq_false_iff.mpr c29
    subst c29
    have H1 : (bellmanref18_Same.l0 kj2 (l0_4.length : Int) 0 a0_0 a0_1 a0_2 a0_3 l0_4 a0_5 a1_0 a1_1 a1_2 a1_3 l1_4 a1_5) = some r := by rw [if_neg (show ¬ (false = true) by decide)] at H; exact H
    clear H
    have H := H1
    clear H1
    have H' := Aside0.mk H
    clear H
    have hnb30 := NB332_333.out
    have hnc30 := NB333_332.out
    have hcz31_0 : wc.cell? ⟨gb332, 0, none⟩ = some (.string a0_0) := (blk_cell BK332.out 0).trans rfl
    have hcz31_1 : wc.cell? ⟨gb332, 1, none⟩ = some (.bool a0_1) := (blk_cell BK332.out 1).trans rfl
    have hcz31_2 : wc.cell? ⟨gb332, 2, none⟩ = some (.int .i64 a0_2) := (blk_cell BK332.out 2).trans rfl
    have hcz31_3 : wc.cell? ⟨gb332, 3, none⟩ = some (.int .i64 a0_3) := (blk_cell BK332.out 3).trans rfl
    have hcz31_4 : wc.cell? ⟨gb332, 4, none⟩ = some (.slice A0_4 l0_4.length c0_4) := (blk_cell BK332.out 4).trans rfl
    have hcz31_5 : wc.cell? ⟨gb332, 5, none⟩ = some (.string a0_5) := (blk_cell BK332.out 5).trans rfl
    have hfz31_0 := blk_frozen BK332.out 0
    have hfz31_1 := blk_frozen BK332.out 1
    have hfz31_2 := blk_frozen BK332.out 2
    have hfz31_3 := blk_frozen BK332.out 3
    have hfz31_4 := blk_frozen BK332.out 4
    have hfz31_5 := blk_frozen BK332.out 5
    go_wp2
    repeat (go_quiet (fail); try go_wp2)
    go_loopg [51] kj2 (fun kq v51 w' => ∃ (x51_2 : Int), v51 = .int .i64 x51_2 ∧ Aside0 (bellmanref18_Same.l0 kq (l0_4.length : Int) x51_2 a0_0 a0_1 a0_2 a0_3 l0_4 a0_5 a1_0 a1_1 a1_2 a1_3 l1_4 a1_5 = some r) ∧ Aside0 (kq ≤ kj2) ∧ Aside0 (w'.heap[gb332]? = some (.cells #[.string a0_0, .bool a0_1, .int .i64 a0_2, .int .i64 a0_3, (.slice A0_4 l0_4.length c0_4), .string a0_5] 37 (0, 0))) ∧ Aside0 (w'.heap[gb333]? = some (.cells #[.string a1_0, .bool a1_1, .int .i64 a1_2, .int .i64 a1_3, (.slice A1_4 l1_4.length c1_4), .string a1_5] 37 (0, 0))) ∧ Aside0 (Below w.heap.size w w'))
    case atStart => exact ⟨(0), (by first | rfl | (simp; done) | (simp [*]; done)), H', ⟨Nat.le_refl _⟩, ⟨by (with_reducible repeat (first | refine blk_drewN ?_ _ | refine blk_drew ?_ | refine blk_alloc ?_ _)); exact BK332.out⟩, ⟨by (with_reducible repeat (first | refine blk_drewN ?_ _ | refine blk_drew ?_ | refine blk_alloc ?_ _)); exact BK333.out⟩, ⟨by repeat (first | (with_reducible first | exact HB.out | apply below_alloc | apply pw_below_drewN | apply below_drew1 | refine below_set ?_ GE332.out | refine below_set ?_ GE333.out) | exact HB.out)⟩⟩
    case round =>
     clear H'
     try clear c1
     try clear c2
     try clear p2
     try clear c3
     try clear c6
     try clear c6b0
     try clear c6b1
     try clear c7
     try clear c7b0
     try clear c7b1
     try clear c7b2
     try clear c8
     try clear c11
     try clear c11b0
     try clear c11b1
     try clear c12
     try clear c12b0
     try clear c12b1
     try clear c13
     try clear c13b0
     try clear c13b1
     try clear c14
     try clear c17
     try clear c20
     try clear c23
     try clear c26
     try clear c29
     try clear c30
     try clear hcz10_0
     try clear hcz10_1
     try clear hcz10_2
     try clear hcz10_3
     try clear hcz10_4
     try clear hcz10_5
     try clear hcz15_0
     try clear hcz15_1
     try clear hcz15_2
     try clear hcz15_3
     try clear hcz15_4
     try clear hcz15_5
     try clear hcz16_0
     try clear hcz16_1
     try clear hcz16_2
     try clear hcz16_3
     try clear hcz16_4
     try clear hcz16_5
     try clear hcz18_0
     try clear hcz18_1
     try clear hcz18_2
     try clear hcz18_3
     try clear hcz18_4
     try clear hcz18_5
     try clear hcz19_0
     try clear hcz19_1
     try clear hcz19_2
     try clear hcz19_3
     try clear hcz19_4
     try clear hcz19_5
     try clear hcz21_0
     try clear hcz21_1
     try clear hcz21_2
     try clear hcz21_3
     try clear hcz21_4
     try clear hcz21_5
     try clear hcz22_0
     try clear hcz22_1
     try clear hcz22_2
     try clear hcz22_3
     try clear hcz22_4
     try clear hcz22_5
     try clear hcz24_0
     try clear hcz24_1
     try clear hcz24_2
     try clear hcz24_3
     try clear hcz24_4
     try clear hcz24_5
     try clear hcz25_0
     try clear hcz25_1
     try clear hcz25_2
     try clear hcz25_3
     try clear hcz25_4
     try clear hcz25_5
     try clear hcz27_0
     try clear hcz27_1
     try clear hcz27_2
     try clear hcz27_3
     try clear hcz27_4
     try clear hcz27_5
     try clear hcz28_0
     try clear hcz28_1
     try clear hcz28_2
     try clear hcz28_3
     try clear hcz28_4
     try clear hcz28_5
     try clear hcz31_0
     try clear hcz31_1
     try clear hcz31_2
     try clear hcz31_3
     try clear hcz31_4
     try clear hcz31_5
     try clear hcz9_0
     try clear hcz9_1
     try clear hcz9_2
     try clear hcz9_3
     try clear hcz9_4
     try clear hcz9_5
     try clear hfz10_0
     try clear hfz10_1
     try clear hfz10_2
     try clear hfz10_3
     try clear hfz10_4
     try clear hfz10_5
     try clear hfz15_0
     try clear hfz15_1
     try clear hfz15_2
     try clear hfz15_3
     try clear hfz15_4
     try clear hfz15_5
     try clear hfz16_0
     try clear hfz16_1
     try clear hfz16_2
     try clear hfz16_3
     try clear hfz16_4
     try clear hfz16_5
     try clear hfz18_0
     try clear hfz18_1
     try clear hfz18_2
     try clear hfz18_3
     try clear hfz18_4
     try clear hfz18_5
     try clear hfz19_0
     try clear hfz19_1
     try clear hfz19_2
     try clear hfz19_3
     try clear hfz19_4
     try clear hfz19_5
     try clear hfz21_0
     try clear hfz21_1
     try clear hfz21_2
     try clear hfz21_3
     try clear hfz21_4
     try clear hfz21_5
     try clear hfz22_0
     try clear hfz22_1
     try clear hfz22_2
     try clear hfz22_3
     try clear hfz22_4
     try clear hfz22_5
     try clear hfz24_0
     try clear hfz24_1
     try clear hfz24_2
     try clear hfz24_3
     try clear hfz24_4
     try clear hfz24_5
     try clear hfz25_0
     try clear hfz25_1
     try clear hfz25_2
     try clear hfz25_3
     try clear hfz25_4
     try clear hfz25_5
     try clear hfz27_0
     try clear hfz27_1
     try clear hfz27_2
     try clear hfz27_3
     try clear hfz27_4
     try clear hfz27_5
     try clear hfz28_0
     try clear hfz28_1
     try clear hfz28_2
     try clear hfz28_3
     try clear hfz28_4
     try clear hfz28_5
     try clear hfz31_0
     try clear hfz31_1
     try clear hfz31_2
     try clear hfz31_3
     try clear hfz31_4
     try clear hfz31_5
     try clear hfz9_0
     try clear hfz9_1
     try clear hfz9_2
     try clear hfz9_3
     try clear hfz9_4
     try clear hfz9_5
     try clear p2
     obtain ⟨x51_2, rfl, HA, HK2, BK332, BK333, HB⟩ := hrel
     cases gk with
     | zero => exact absurd HA.out (by simp [bellmanref18_Same.l0])
     | succ k2 =>
      have H := HA.out
      clear HA
      simp only [bellmanref18_Same.l0] at H
      by_cases c32 : x51_2 < (l0_4.length : Int)
      ·rw [if_pos c32] at H
       have c32b0 : decide (x51_2 < (l0_4.length : Int)) = true := decide_eq_true c32
       clear c32
       by_cases c33 : 0 ≤ x51_2
       ·rw [if_pos c33] at H
        have c33b0 : decide (0 ≤ x51_2) = true := decide_eq_true c33
        clear c33
        by_cases c34 : x51_2 < (l0_4.length : Int)
        ·rw [if_pos c34] at H
         have c34b0 : decide (x51_2 < (l0_4.length : Int)) = true := decide_eq_true c34
         clear c34
         by_cases c35 : x51_2 < (l1_4.length : Int)
         ·rw [if_pos c35] at H
          have c35b0 : decide (x51_2 < (l1_4.length : Int)) = true := decide_eq_true c35
          clear c35
          by_cases c36 : (!(((rd_T41 l0_4 x51_2).f0) == ((rd_T41 l1_4 x51_2).f0)) || (!(((rd_T41 l0_4 x51_2).f1) == ((rd_T41 l1_4 x51_2).f1)) || (!(((rd_T41 l0_4 x51_2).f2) == ((rd_T41 l1_4 x51_2).f2)) || (!(((rd_T41 l0_4 x51_2).f3) == ((rd_T41 l1_4 x51_2).f3)))))) = true
          ·rw [if_pos c36] at H
           have c36b0 : (!(((rd_T41 l0_4 x51_2).f0) == ((rd_T41 l1_4 x51_2).f0)) || (!(((rd_T41 l0_4 x51_2).f1) == ((rd_T41 l1_4 x51_2).f1)) || (!(((rd_T41 l0_4 x51_2).f2) == ((rd_T41 l1_4 x51_2).f2)) || (!(((rd_T41 l0_4 x51_2).f3) == ((rd_T41 l1_4 x51_2).f3)))))) = true := c36
           clear c36
           obtain rfl := Option.some.inj H
           have hnb37 := NB332_333.out
           have hnc37 := NB333_332.out
           have hcz38_0 : wr.cell? ⟨gb332, 0, none⟩ = some (.string a0_0) := (blk_cell BK332.out 0).trans rfl
           have hcz38_1 : wr.cell? ⟨gb332, 1, none⟩ = some (.bool a0_1) := (blk_cell BK332.out 1).trans rfl
           have hcz38_2 : wr.cell? ⟨gb332, 2, none⟩ = some (.int .i64 a0_2) := (blk_cell BK332.out 2).trans rfl
           have hcz38_3 : wr.cell? ⟨gb332, 3, none⟩ = some (.int .i64 a0_3) := (blk_cell BK332.out 3).trans rfl
           have hcz38_4 : wr.cell? ⟨gb332, 4, none⟩ = some (.slice A0_4 l0_4.length c0_4) := (blk_cell BK332.out 4).trans rfl
           have hcz38_5 : wr.cell? ⟨gb332, 5, none⟩ = some (.string a0_5) := (blk_cell BK332.out 5).trans rfl
           have hfz38_0 := blk_frozen BK332.out 0
           have hfz38_1 := blk_frozen BK332.out 1
           have hfz38_2 := blk_frozen BK332.out 2
           have hfz38_3 := blk_frozen BK332.out 3
           have hfz38_4 := blk_frozen BK332.out 4
           have hfz38_5 := blk_frozen BK332.out 5
           have p334 : 0 ≤ (x51_2 : Int) := of_decide_eq_true (by first | (with_reducible assumption) | assumption)
           have q334 : x51_2 < (l0_4.length : Int) := of_decide_eq_true (by first | (with_reducible assumption) | assumption)
           obtain ⟨ad334, e334, hx334_0, hx334_1, hx334_2, hx334_3⟩ := at_T41 HR0_4.out x51_2 p334 q334
           cases e334
           replace hx334_0 := (HB.out.cell (World.block_lt_of_cell? w _ hx334_0)).trans hx334_0
           replace hx334_1 := (HB.out.cell (World.block_lt_of_cell? w _ hx334_1)).trans hx334_1
           replace hx334_2 := (HB.out.cell (World.block_lt_of_cell? w _ hx334_2)).trans hx334_2
           replace hx334_3 := (HB.out.cell (World.block_lt_of_cell? w _ hx334_3)).trans hx334_3
           replace p334 := eq_true p334
           replace q334 := eq_true q334
           have hcz39_0 : wr.cell? ⟨gb333, 0, none⟩ = some (.string a1_0) := (blk_cell BK333.out 0).trans rfl
           have hcz39_1 : wr.cell? ⟨gb333, 1, none⟩ = some (.bool a1_1) := (blk_cell BK333.out 1).trans rfl
           have hcz39_2 : wr.cell? ⟨gb333, 2, none⟩ = some (.int .i64 a1_2) := (blk_cell BK333.out 2).trans rfl
           have hcz39_3 : wr.cell? ⟨gb333, 3, none⟩ = some (.int .i64 a1_3) := (blk_cell BK333.out 3).trans rfl
           have hcz39_4 : wr.cell? ⟨gb333, 4, none⟩ = some (.slice A1_4 l1_4.length c1_4) := (blk_cell BK333.out 4).trans rfl
           have hcz39_5 : wr.cell? ⟨gb333, 5, none⟩ = some (.string a1_5) := (blk_cell BK333.out 5).trans rfl
           have hfz39_0 := blk_frozen BK333.out 0
           have hfz39_1 := blk_frozen BK333.out 1
           have hfz39_2 := blk_frozen BK333.out 2
           have hfz39_3 := blk_frozen BK333.out 3
           have hfz39_4 := blk_frozen BK333.out 4
           have hfz39_5 := blk_frozen BK333.out 5
           have p335 : 0 ≤ (x51_2 : Int) := of_decide_eq_true (by first | (with_reducible assumption) | assumption)
           have q335 : x51_2 < (l1_4.length : Int) := of_decide_eq_true (by first | (with_reducible assumption) | assumption)
           obtain ⟨ad335, e335, hx335_0, hx335_1, hx335_2, hx335_3⟩ := at_T41 HR1_4.out x51_2 p335 q335
           cases e335
           replace hx335_0 := (HB.out.cell (World.block_lt_of_cell? w _ hx335_0)).trans hx335_0
           replace hx335_1 := (HB.out.cell (World.block_lt_of_cell? w _ hx335_1)).trans hx335_1
           replace hx335_2 := (HB.out.cell (World.block_lt_of_cell? w _ hx335_2)).trans hx335_2
           replace hx335_3 := (HB.out.cell (World.block_lt_of_cell? w _ hx335_3)).trans hx335_3
           replace p335 := eq_true p335
           replace q335 := eq_true q335
           go_wp2
           repeat (go_quiet (fail); try go_wp2)
           go_ret
           exact ⟨by first | rfl | (simp [errW_none, errW_some] <;> rfl) | (simp [*, errW_none, errW_some] <;> rfl), by repeat (first | (with_reducible first | exact HB.out | apply below_alloc | apply pw_below_drewN | apply below_drew1 | refine below_set ?_ GE332.out | refine below_set ?_ GE333.out) | exact HB.out)⟩
          ·rw [if_neg c36] at H
           have c36b0 : (!(((rd_T41 l0_4 x51_2).f0) == ((rd_T41 l1_4 x51_2).f0)) || (!(((rd_T41 l0_4 x51_2).f1) == ((rd_T41 l1_4 x51_2).f1)) || (!(((rd_T41 l0_4 x51_2).f2) == ((rd_T41 l1_4 x51_2).f2)) || (!(((rd_T41 l0_4 x51_2).f3) == ((rd_T41 l1_4 x51_2).f3)))))) = false := by simpa using c36
           clear c36
           have H' := Aside0.mk H
           clear H
           have hnb40 := NB332_333.out
           have hnc40 := NB333_332.out
           have hcz41_0 : wr.cell? ⟨gb332, 0, none⟩ = some (.string a0_0) := (blk_cell BK332.out 0).trans rfl
           have hcz41_1 : wr.cell? ⟨gb332, 1, none⟩ = some (.bool a0_1) := (blk_cell BK332.out 1).trans rfl
           have hcz41_2 : wr.cell? ⟨gb332, 2, none⟩ = some (.int .i64 a0_2) := (blk_cell BK332.out 2).trans rfl
           have hcz41_3 : wr.cell? ⟨gb332, 3, none⟩ = some (.int .i64 a0_3) := (blk_cell BK332.out 3).trans rfl
           have hcz41_4 : wr.cell? ⟨gb332, 4, none⟩ = some (.slice A0_4 l0_4.length c0_4) := (blk_cell BK332.out 4).trans rfl
           have hcz41_5 : wr.cell? ⟨gb332, 5, none⟩ = some (.string a0_5) := (blk_cell BK332.out 5).trans rfl
           have hfz41_0 := blk_frozen BK332.out 0
           have hfz41_1 := blk_frozen BK332.out 1
           have hfz41_2 := blk_frozen BK332.out 2
           have hfz41_3 := blk_frozen BK332.out 3
           have hfz41_4 := blk_frozen BK332.out 4
           have hfz41_5 := blk_frozen BK332.out 5
           have p334 : 0 ≤ (x51_2 : Int) := of_decide_eq_true (by first | (with_reducible assumption) | assumption)
           have q334 : x51_2 < (l0_4.length : Int) := of_decide_eq_true (by first | (with_reducible assumption) | assumption)
           obtain ⟨ad334, e334, hx334_0, hx334_1, hx334_2, hx334_3⟩ := at_T41 HR0_4.out x51_2 p334 q334
           cases e334
           replace hx334_0 := (HB.out.cell (World.block_lt_of_cell? w _ hx334_0)).trans hx334_0
           replace hx334_1 := (HB.out.cell (World.block_lt_of_cell? w _ hx334_1)).trans hx334_1
           replace hx334_2 := (HB.out.cell (World.block_lt_of_cell? w _ hx334_2)).trans hx334_2
           replace hx334_3 := (HB.out.cell (World.block_lt_of_cell? w _ hx334_3)).trans hx334_3
           replace p334 := eq_true p334
           replace q334 := eq_true q334
           have hcz42_0 : wr.cell? ⟨gb333, 0, none⟩ = some (.string a1_0) := (blk_cell BK333.out 0).trans rfl
           have hcz42_1 : wr.cell? ⟨gb333, 1, none⟩ = some (.bool a1_1) := (blk_cell BK333.out 1).trans rfl
           have hcz42_2 : wr.cell? ⟨gb333, 2, none⟩ = some (.int .i64 a1_2) := (blk_cell BK333.out 2).trans rfl
           have hcz42_3 : wr.cell? ⟨gb333, 3, none⟩ = some (.int .i64 a1_3) := (blk_cell BK333.out 3).trans rfl
           have hcz42_4 : wr.cell? ⟨gb333, 4, none⟩ = some (.slice A1_4 l1_4.length c1_4) := (blk_cell BK333.out 4).trans rfl
           have hcz42_5 : wr.cell? ⟨gb333, 5, none⟩ = some (.string a1_5) := (blk_cell BK333.out 5).trans rfl
           have hfz42_0 := blk_frozen BK333.out 0
           have hfz42_1 := blk_frozen BK333.out 1
           have hfz42_2 := blk_frozen BK333.out 2
           have hfz42_3 := blk_frozen BK333.out 3
           have hfz42_4 := blk_frozen BK333.out 4
           have hfz42_5 := blk_frozen BK333.out 5
           have p335 : 0 ≤ (x51_2 : Int) := of_decide_eq_true (by first | (with_reducible assumption) | assumption)
           have q335 : x51_2 < (l1_4.length : Int) := of_decide_eq_true (by first | (with_reducible assumption) | assumption)
           obtain ⟨ad335, e335, hx335_0, hx335_1, hx335_2, hx335_3⟩ := at_T41 HR1_4.out x51_2 p335 q335
           cases e335
           replace hx335_0 := (HB.out.cell (World.block_lt_of_cell? w _ hx335_0)).trans hx335_0
           replace hx335_1 := (HB.out.cell (World.block_lt_of_cell? w _ hx335_1)).trans hx335_1
           replace hx335_2 := (HB.out.cell (World.block_lt_of_cell? w _ hx335_2)).trans hx335_2
           replace hx335_3 := (HB.out.cell (World.block_lt_of_cell? w _ hx335_3)).trans hx335_3
           replace p335 := eq_true p335
           replace q335 := eq_true q335
           go_wp2
           repeat (go_quiet (fail); try go_wp2)
           go_roundg k2
           case measure => have := HJ2.out; have := HK2.out; omega
           case rel => exact ⟨(wrap64 (x51_2 + 1)), (by first | rfl | (simp; done) | (simp [*]; done)), H', ⟨by have := HJ2.out; have := HK2.out; omega⟩, ⟨by (with_reducible repeat (first | refine blk_drewN ?_ _ | refine blk_drew ?_ | refine blk_alloc ?_ _)); exact BK332.out⟩, ⟨by (with_reducible repeat (first | refine blk_drewN ?_ _ | refine blk_drew ?_ | refine blk_alloc ?_ _)); exact BK333.out⟩, ⟨by repeat (first | (with_reducible first | exact HB.out | apply below_alloc | apply pw_below_drewN | apply below_drew1 | refine below_set ?_ GE332.out | refine below_set ?_ GE333.out) | exact HB.out)⟩⟩
         ·rw [if_neg c35] at H
          exact absurd H (by simp)
        ·rw [if_neg c34] at H
         exact absurd H (by simp)
       ·rw [if_neg c33] at H
        exact absurd H (by simp)
      ·rw [if_neg c32] at H
       have c32b0 : decide (x51_2 < (l0_4.length : Int)) = false := decide_eq_false c32
       clear c32
       obtain rfl := Option.some.inj H
       go_wp2
       repeat (go_quiet (fail); try go_wp2)
       go_ret
       exact ⟨by first | rfl | (simp [errW_none, errW_some] <;> rfl) | (simp [*, errW_none, errW_some] <;> rfl), by repeat (first | (with_reducible first | exact HB.out | apply below_alloc | apply pw_below_drewN | apply below_drew1 | refine below_set ?_ GE332.out | refine below_set ?_ GE333.out) | exact HB.out)⟩
end Go.Proofs.YthngelbaheankaaGreatDoor.PB
namespace Go.Proofs.YthngelbaheankaaGreatDoor.Tpl
open Go.RowKit Go.Proofs Go.Proofs.YthngelbaheankaaGreatDoor.PB Go.Proofs.YthngelbaheankaaGreatDoor.Short Go.Proofs.YthngelbaheankaaGreatDoorW.PrintWords Go.Proofs.YthngelbaheankaaGreatDoorW.PrintLast Go.Proofs.YthngelbaheankaaGreatDoorW.PrintMore Nodes
abbrev SLv := S41
abbrev kLv : Kd SLv := k41
structure Lev where
  c : Nat
  w : Int
  t : Int
  p : Int
def Lev.of (x : Lev) : SLv := ⟨x.c, x.w, x.t, x.p⟩
def Lev.ok (x : Lev) : Bool := levP x.c x.w x.t x.p
def RdL (w : World) (A : Option Addr) (c : Nat) (l : List Lev) : Prop := kLv.C w A l.length (l.map Lev.of) ∧ l.length ≤ c
theorem RdL.below {w w1 : World} {A : Option Addr} {c : Nat} {l : List Lev} (h : RdL w A c l) (hb : Below w.heap.size w w1) : RdL w1 A c l := ⟨Kd.C_below h.1 hb, h.2⟩
theorem RdL.at {w : World} {A : Option Addr} {c : Nat} {l : List Lev} (h : RdL w A c l) {j : Nat} {x : Lev} (hx : l[j]? = some x) :
    ∃ ad, A = some ad ∧ w.cell? (ad.add (j * 4)) = some (.int .u8 x.c) ∧ w.cell? ⟨(ad.add (j * 4)).block, (ad.add (j * 4)).off + 1, none⟩ = some (.int .i64 x.w) ∧ w.cell? ⟨(ad.add (j * 4)).block, (ad.add (j * 4)).off + 2, none⟩ = some (.int .i64 x.t) ∧
      w.cell? ⟨(ad.add (j * 4)).block, (ad.add (j * 4)).off + 3, none⟩ = some (.int .i64 x.p) := by
  have hj : j < l.length := (List.getElem?_eq_some_iff.1 hx).1
  obtain ⟨ad, e, x0, x1, x2, x3⟩ := at_T41 h.1 (j : Int) (by omega) (by omega)
  have e3 : rd_T41 (l.map Lev.of) (j : Int) = x.of := by
    unfold rd_T41
    rw [Int.toNat_natCast, List.getD_eq_getElem?_getD, List.getElem?_map, hx]; rfl
  rw [e3] at x0 x1 x2 x3
  simp only [Int.toNat_natCast] at x0 x1 x2 x3
  exact ⟨ad, e, x0, x1, x2, x3⟩
structure Cat where
  n : S
  cr : Bool
  w : Int
  b : Int
  ch : List Lev
  s : S
abbrev catV (x : Cat) (A : Option Addr) (c : Nat) : Value := .agg #[.string (bs x.n), .bool x.cr, .int .i64 x.w, .int .i64 x.b, .slice A x.ch.length c, .string (bs x.s)]
abbrev catO (x : Cat) (A : Option Addr) (c : Nat) : Obj := .cells #[.string (bs x.n), .bool x.cr, .int .i64 x.w, .int .i64 x.b, .slice A x.ch.length c, .string (bs x.s)] 37
def Cat.sm (x : Cat) : Prop := x.n.length ≤ 1048576 ∧ x.ch.length ≤ 1048576 ∧ x.s.length ≤ 1048576
def leastP (w : Int) : Int := if 0 < w then 1 else 0
def winP (w b : Int) : Bool := spanP w 0 && decide (leastP w ≤ b ∧ b ≤ leastP w * 16)
def Cat.ok (x : Cat) : Bool := nameP x.n && winP x.w x.b && decide (1 ≤ x.ch.length ∧ x.ch.length ≤ 4) && x.ch.all Lev.ok && srcP x.s
theorem all_drop {l : List Lev} {j : Nat} {x : Lev} (hx : l[j]? = some x) : (l.drop j).all Lev.ok = (x.ok && (l.drop (j + 1)).all Lev.ok) := by
  obtain ⟨hj, rfl⟩ := List.getElem?_eq_some_iff.1 hx
  rw [List.drop_eq_getElem_cons hj, List.all_cons]
theorem vname_any (s : S) (hs : s.length ≤ 1048576) (w : World) : Calls Tryz.prog 69 #[.string (bs s)] w fun e w' => e = .returned (.int .i64 (if nameP s = true then 0 else 13)) ∧ Below w.heap.size w w' := by
  obtain ⟨k, hk⟩ := name_f s hs
  exact (value_Name.calls k (bs s) _ w hk).mono fun e w' h => ⟨h.1, by first | exact h.2 | exact h.2.below | (have h2 := h.2; subst h2; exact Below.refl _ _)⟩
set_option maxHeartbeats 8000000 in
set_option maxRecDepth 100000 in
theorem check_cat (x : Cat) (A : Option Addr) (c : Nat) (w : World) (hG : GlobC w) (hs : x.sm) (hR : RdL w A c x.ch) : Calls Tryz.prog 51 #[catV x A c] w (FaultRet x.ok w) := by
  obtain ⟨o, ho⟩ : ∃ o, x.ok = o := ⟨_, rfl⟩
  rw [ho]
  unfold Cat.ok at ho
  obtain ⟨n, cr, ww, b, ch, s⟩ := x
  show Calls _ _ #[.agg #[.string (bs n), .bool cr, .int .i64 ww, .int .i64 b, .slice A ch.length c, .string (bs s)]] _ _
  obtain ⟨s1, s2, s3⟩ := hs
  simp only at ho s1 s2 s3 hR
  have hb1 := below_alloc (Below.refl w.heap.size w) (catO ⟨n, cr, ww, b, ch, s⟩ A c)
  have BK := blk_new w (catO ⟨n, cr, ww, b, ch, s⟩ A c)
  have HG := Aside0.mk (hG.below hb1)
  have HR := Aside0.mk (hR.below hb1)
  have HB := Aside0.mk hb1
  clear hG hb1 hR
  obtain ⟨lst, hl⟩ : ∃ lst, leastP ww = lst := ⟨_, rfl⟩
  have hn := vname_any n s1 
  have hsp := fun W => span_any ww 0 W
  have hO : (nameP n && (spanP ww 0 && decide (lst ≤ b ∧ b ≤ lst * 16)) && decide (1 ≤ ch.length ∧ ch.length ≤ 4) && ch.all Lev.ok && srcP s) = o := by rw [← ho, ← hl]; rfl
  have HO := Aside0.mk hO
  have hlw : (0 < ww ∧ lst = 1) ∨ (¬ 0 < ww ∧ lst = 0) := by
    rw [← hl]; unfold leastP
    by_cases h : 0 < ww
    · rw [if_pos h]; exact .inl ⟨h, rfl⟩
    · rw [if_neg h]; exact .inr ⟨h, rfl⟩
  generalize spanP ww 0 = d at hsp HO
  generalize nameP n = e1 at hn HO
  clear ho hO hl
  have eq : catO ⟨n, cr, ww, b, ch, s⟩ A c = .cells #[.string (bs n), .bool cr, .int .i64 ww, .int .i64 b, .slice A ch.length c, .string (bs s)] 37 := rfl
  rw [eq] at BK HB HR HG
  clear eq
  rcases hlw with ⟨hw, rfl⟩ | ⟨hw, rfl⟩
  · go_enter Tryz.func51, Tryz.ntmps51
    go_upto_region 1 with (fail)
    generalize w.alloc (.cells #[.string (bs n), .bool cr, .int .i64 ww, .int .i64 b, .slice A ch.length c, .string (bs s)] 37) = W at BK HG HB HR ⊢
    generalize w.heap.size = b1 at BK ⊢
    obtain ⟨y0, y1, y2, y3, y4, y5, -⟩ := cells_6 BK
    go_wp2_with fail
    refine (hn W).mono ?_
    rintro e W1 ⟨rfl, hb⟩
    have BK1 := Aside0.mk (blk_below BK hb)
    have HB1 := Aside0.mk (below_step HB.out hb)
    have HR1 := Aside0.mk (HR.out.below hb)
    have HG1 := Aside0.mk (HG.out.below hb)
    clear hn hb BK HB HR HG y0 y1 y2 y3 y4 y5
    obtain ⟨y0, y1, y2, y3, y4, y5, -⟩ := cells_6 BK1.out
    cases e1 with
    | false =>
      obtain rfl : false = o := HO.out
      go_wp2
      go_ret
      exact faultRet_no (below_alloc HB1.out _)
    | true =>
      cases d with
      | false =>
        obtain rfl : false = o := HO.out
        go_wp2_with (go_at_call 93; (with_reducible refine (hsp _).mono ?_); rintro e w' ⟨rfl, rfl⟩)
        go_ret
        exact faultRet_no (below_alloc HB1.out _)
      | true =>
        by_cases h1 : b < 1
        · obtain rfl : false = o := by rw [← HO.out, decide_eq_false (show ¬ ((1 : Int) ≤ b ∧ b ≤ 1 * 16) by omega)]; rfl
          clear HO HR1 HG1
          go_wp2_with (go_at_call 93; (with_reducible refine (hsp _).mono ?_); rintro e w' ⟨rfl, rfl⟩)
          go_ret
          exact faultRet_no (below_alloc HB1.out _)
        by_cases h2 : 16 < b
        · obtain rfl : false = o := by rw [← HO.out, decide_eq_false (show ¬ ((1 : Int) ≤ b ∧ b ≤ 1 * 16) by omega)]; rfl
          clear HO HR1 HG1
          go_wp2_with (go_at_call 93; (with_reducible refine (hsp _).mono ?_); rintro e w' ⟨rfl, rfl⟩)
          go_ret
          exact faultRet_no (below_alloc HB1.out _)
        have HO2 : Aside0 ((decide (1 ≤ ch.length ∧ ch.length ≤ 4) && ch.all Lev.ok && srcP s) = o) := ⟨by rw [← HO.out, decide_eq_true (show ((1 : Int) ≤ b ∧ b ≤ 1 * 16) by omega)]; rfl⟩
        clear HO
        by_cases h3 : (ch.length : Int) < 1
        · obtain rfl : false = o := by rw [← HO2.out, decide_eq_false (show ¬ (1 ≤ ch.length ∧ ch.length ≤ 4) by omega)]; rfl
          clear HO2 HR1 HG1
          go_wp2_with (go_at_call 93; (with_reducible refine (hsp _).mono ?_); rintro e w' ⟨rfl, rfl⟩)
          go_ret
          exact faultRet_no (below_alloc HB1.out _)
        by_cases h4 : 4 < (ch.length : Int)
        · obtain rfl : false = o := by rw [← HO2.out, decide_eq_false (show ¬ (1 ≤ ch.length ∧ ch.length ≤ 4) by omega)]; rfl
          clear HO2 HR1 HG1
          go_wp2_with (go_at_call 93; (with_reducible refine (hsp _).mono ?_); rintro e w' ⟨rfl, rfl⟩)
          go_ret
          exact faultRet_no (below_alloc HB1.out _)
        have HO3 : Aside0 ((ch.all Lev.ok && srcP s) = o) := ⟨by rw [← HO2.out, decide_eq_true (show (1 ≤ ch.length ∧ ch.length ≤ 4) by omega)]; rfl⟩
        clear HO2
        go_wp2_with (go_at_call 93; (with_reducible refine (hsp _).mono ?_); rintro e w' ⟨rfl, rfl⟩)
        clear y0 y1 y2 y3 y4 y5
        go_loopw [56] (fun v wr => ∃ j : Nat, v = .int .i64 j ∧ j ≤ ch.length ∧ Aside0 (((ch.drop j).all Lev.ok && srcP s) = o) ∧ Aside0 (Below W1.heap.size W1 wr)) (fun v _ => ch.length - (intOf v).toNat)
        case atStart => exact ⟨0, rfl, Nat.zero_le _, ⟨by rw [List.drop_zero]; exact HO3.out⟩, ⟨Below.refl _ _⟩⟩
        case round =>
          obtain ⟨j, rfl, hj, HY, HW⟩ := hrel
          have HBw := Aside0.mk (below_step HB1.out HW.out)
          by_cases hlt : j < ch.length
          · have hx : ch[j]? = some ch[j] := List.getElem?_eq_getElem hlt
            obtain ⟨ad, rfl, z0, z1, z2, z3⟩ := (HR1.out.below HW.out).at hx
            have had := all_drop hx
            have hbl := below_alloc (Below.refl wr.heap.size wr) (.cells #[.int .u8 ch[j].c, .int .i64 ch[j].w, .int .i64 ch[j].t, .int .i64 ch[j].p] 41)
            have hlv := level_any ch[j].c ch[j].w ch[j].t ch[j].p (wr.alloc (.cells #[.int .u8 ch[j].c, .int .i64 ch[j].w, .int .i64 ch[j].t, .int .i64 ch[j].p] 41)) ((HG1.out.below HW.out).below hbl).nam
            change Calls _ _ _ _ (FaultRet (Lev.ok ch[j]) _) at hlv
            rw [had] at HY
            generalize hxx : ch[j] = x at z0 z1 z2 z3 hlv hbl HY
            generalize x.ok = ok at hlv HY
            have HWl := Aside0.mk (below_step HW.out hbl)
            have HBl := Aside0.mk (below_step HBw.out hbl)
            clear hx had hxx hbl
            cases ok with
            | false =>
              obtain rfl : false = o := HY.out
              go_wp2_with fail
              refine hlv.mono ?_
              rintro e W3 ⟨hb, -, h⟩
              obtain ⟨bf, rfl⟩ := h rfl
              have HB3 := Aside0.mk (below_step HBl.out hb)
              clear hlv hb h
              go_wp2
              go_ret
              exact faultRet_no HB3.out
            | true =>
              have HY2 : Aside0 (((ch.drop (j + 1)).all Lev.ok && srcP s) = o) := ⟨HY.out⟩
              clear HY
              go_wp2_with fail
              refine hlv.mono ?_
              rintro e W3 ⟨hb, h, -⟩
              obtain rfl := h rfl
              have HW3 := Aside0.mk (below_step HWl.out hb)
              clear hlv hb h
              go_wp2
              go_round
              case rel => exact ⟨j + 1, by go_num, by omega, HY2, HW3⟩
              case measure => simp [intOf]; omega
          · obtain rfl : j = ch.length := by omega
            have hso : srcP s = o := by rw [← HY.out, List.drop_length]; rfl
            have hsrc := source_any s s3 wr (HG1.out.below HW.out)
            rw [hso] at hsrc
            obtain ⟨y0, y1, y2, y3, y4, y5, -⟩ := cells_6 (blk_below BK1.out HW.out)
            clear HY hso
            cases o with
            | true =>
              go_wp2_with fail
              refine hsrc.mono ?_
              rintro e W3 ⟨hb, h, -⟩
              obtain rfl := h rfl
              have HB3 := Aside0.mk (below_step HBw.out hb)
              clear hsrc hb h
              go_wp2
              go_ret
              exact faultRet_ok HB3.out
            | false =>
              go_wp2_with fail
              refine hsrc.mono ?_
              rintro e W3 ⟨hb, -, h⟩
              obtain ⟨bf, rfl⟩ := h rfl
              have HB3 := Aside0.mk (below_step HBw.out hb)
              clear hsrc hb h
              go_wp2
              go_ret
              exact faultRet_no HB3.out
  · go_enter Tryz.func51, Tryz.ntmps51
    go_upto_region 1 with (fail)
    generalize w.alloc (.cells #[.string (bs n), .bool cr, .int .i64 ww, .int .i64 b, .slice A ch.length c, .string (bs s)] 37) = W at BK HG HB HR ⊢
    generalize w.heap.size = b1 at BK ⊢
    obtain ⟨y0, y1, y2, y3, y4, y5, -⟩ := cells_6 BK
    go_wp2_with fail
    refine (hn W).mono ?_
    rintro e W1 ⟨rfl, hb⟩
    have BK1 := Aside0.mk (blk_below BK hb)
    have HB1 := Aside0.mk (below_step HB.out hb)
    have HR1 := Aside0.mk (HR.out.below hb)
    have HG1 := Aside0.mk (HG.out.below hb)
    clear hn hb BK HB HR HG y0 y1 y2 y3 y4 y5
    obtain ⟨y0, y1, y2, y3, y4, y5, -⟩ := cells_6 BK1.out
    cases e1 with
    | false =>
      obtain rfl : false = o := HO.out
      go_wp2
      go_ret
      exact faultRet_no (below_alloc HB1.out _)
    | true =>
      cases d with
      | false =>
        obtain rfl : false = o := HO.out
        go_wp2_with (go_at_call 93; (with_reducible refine (hsp _).mono ?_); rintro e w' ⟨rfl, rfl⟩)
        go_ret
        exact faultRet_no (below_alloc HB1.out _)
      | true =>
        by_cases h1 : b < 0
        · obtain rfl : false = o := by rw [← HO.out, decide_eq_false (show ¬ ((0 : Int) ≤ b ∧ b ≤ 0 * 16) by omega)]; rfl
          clear HO HR1 HG1
          go_wp2_with (go_at_call 93; (with_reducible refine (hsp _).mono ?_); rintro e w' ⟨rfl, rfl⟩)
          go_ret
          exact faultRet_no (below_alloc HB1.out _)
        by_cases h2 : 0 < b
        · obtain rfl : false = o := by rw [← HO.out, decide_eq_false (show ¬ ((0 : Int) ≤ b ∧ b ≤ 0 * 16) by omega)]; rfl
          clear HO HR1 HG1
          go_wp2_with (go_at_call 93; (with_reducible refine (hsp _).mono ?_); rintro e w' ⟨rfl, rfl⟩)
          go_ret
          exact faultRet_no (below_alloc HB1.out _)
        have HO2 : Aside0 ((decide (1 ≤ ch.length ∧ ch.length ≤ 4) && ch.all Lev.ok && srcP s) = o) := ⟨by rw [← HO.out, decide_eq_true (show ((0 : Int) ≤ b ∧ b ≤ 0 * 16) by omega)]; rfl⟩
        clear HO
        by_cases h3 : (ch.length : Int) < 1
        · obtain rfl : false = o := by rw [← HO2.out, decide_eq_false (show ¬ (1 ≤ ch.length ∧ ch.length ≤ 4) by omega)]; rfl
          clear HO2 HR1 HG1
          go_wp2_with (go_at_call 93; (with_reducible refine (hsp _).mono ?_); rintro e w' ⟨rfl, rfl⟩)
          go_ret
          exact faultRet_no (below_alloc HB1.out _)
        by_cases h4 : 4 < (ch.length : Int)
        · obtain rfl : false = o := by rw [← HO2.out, decide_eq_false (show ¬ (1 ≤ ch.length ∧ ch.length ≤ 4) by omega)]; rfl
          clear HO2 HR1 HG1
          go_wp2_with (go_at_call 93; (with_reducible refine (hsp _).mono ?_); rintro e w' ⟨rfl, rfl⟩)
          go_ret
          exact faultRet_no (below_alloc HB1.out _)
        have HO3 : Aside0 ((ch.all Lev.ok && srcP s) = o) := ⟨by rw [← HO2.out, decide_eq_true (show (1 ≤ ch.length ∧ ch.length ≤ 4) by omega)]; rfl⟩
        clear HO2
        go_wp2_with (go_at_call 93; (with_reducible refine (hsp _).mono ?_); rintro e w' ⟨rfl, rfl⟩)
        clear y0 y1 y2 y3 y4 y5
        go_loopw [56] (fun v wr => ∃ j : Nat, v = .int .i64 j ∧ j ≤ ch.length ∧ Aside0 (((ch.drop j).all Lev.ok && srcP s) = o) ∧ Aside0 (Below W1.heap.size W1 wr)) (fun v _ => ch.length - (intOf v).toNat)
        case atStart => exact ⟨0, rfl, Nat.zero_le _, ⟨by rw [List.drop_zero]; exact HO3.out⟩, ⟨Below.refl _ _⟩⟩
        case round =>
          obtain ⟨j, rfl, hj, HY, HW⟩ := hrel
          have HBw := Aside0.mk (below_step HB1.out HW.out)
          by_cases hlt : j < ch.length
          · have hx : ch[j]? = some ch[j] := List.getElem?_eq_getElem hlt
            obtain ⟨ad, rfl, z0, z1, z2, z3⟩ := (HR1.out.below HW.out).at hx
            have had := all_drop hx
            have hbl := below_alloc (Below.refl wr.heap.size wr) (.cells #[.int .u8 ch[j].c, .int .i64 ch[j].w, .int .i64 ch[j].t, .int .i64 ch[j].p] 41)
            have hlv := level_any ch[j].c ch[j].w ch[j].t ch[j].p (wr.alloc (.cells #[.int .u8 ch[j].c, .int .i64 ch[j].w, .int .i64 ch[j].t, .int .i64 ch[j].p] 41)) ((HG1.out.below HW.out).below hbl).nam
            change Calls _ _ _ _ (FaultRet (Lev.ok ch[j]) _) at hlv
            rw [had] at HY
            generalize hxx : ch[j] = x at z0 z1 z2 z3 hlv hbl HY
            generalize x.ok = ok at hlv HY
            have HWl := Aside0.mk (below_step HW.out hbl)
            have HBl := Aside0.mk (below_step HBw.out hbl)
            clear hx had hxx hbl
            cases ok with
            | false =>
              obtain rfl : false = o := HY.out
              go_wp2_with fail
              refine hlv.mono ?_
              rintro e W3 ⟨hb, -, h⟩
              obtain ⟨bf, rfl⟩ := h rfl
              have HB3 := Aside0.mk (below_step HBl.out hb)
              clear hlv hb h
              go_wp2
              go_ret
              exact faultRet_no HB3.out
            | true =>
              have HY2 : Aside0 (((ch.drop (j + 1)).all Lev.ok && srcP s) = o) := ⟨HY.out⟩
              clear HY
              go_wp2_with fail
              refine hlv.mono ?_
              rintro e W3 ⟨hb, h, -⟩
              obtain rfl := h rfl
              have HW3 := Aside0.mk (below_step HWl.out hb)
              clear hlv hb h
              go_wp2
              go_round
              case rel => exact ⟨j + 1, by go_num, by omega, HY2, HW3⟩
              case measure => simp [intOf]; omega
          · obtain rfl : j = ch.length := by omega
            have hso : srcP s = o := by rw [← HY.out, List.drop_length]; rfl
            have hsrc := source_any s s3 wr (HG1.out.below HW.out)
            rw [hso] at hsrc
            obtain ⟨y0, y1, y2, y3, y4, y5, -⟩ := cells_6 (blk_below BK1.out HW.out)
            clear HY hso
            cases o with
            | true =>
              go_wp2_with fail
              refine hsrc.mono ?_
              rintro e W3 ⟨hb, h, -⟩
              obtain rfl := h rfl
              have HB3 := Aside0.mk (below_step HBw.out hb)
              clear hsrc hb h
              go_wp2
              go_ret
              exact faultRet_ok HB3.out
            | false =>
              go_wp2_with fail
              refine hsrc.mono ?_
              rintro e W3 ⟨hb, -, h⟩
              obtain ⟨bf, rfl⟩ := h rfl
              have HB3 := Aside0.mk (below_step HBw.out hb)
              clear hsrc hb h
              go_wp2
              go_ret
              exact faultRet_no HB3.out
end Go.Proofs.YthngelbaheankaaGreatDoor.Tpl
namespace Go.Proofs.YthngelbaheankaaGreatDoor.Tpl
open Go.RowKit Go.Proofs Go.Proofs.YthngelbaheankaaGreatDoor.PB Go.Proofs.YthngelbaheankaaGreatDoor.Short Go.Proofs.YthngelbaheankaaGreatDoorW.PrintWords Go.Proofs.YthngelbaheankaaGreatDoorW.PrintLast Go.Proofs.YthngelbaheankaaGreatDoorW.PrintMore Nodes
set_option maxHeartbeats 2000000 in
set_option maxRecDepth 100000 in
/-- chain.Check -/
theorem ccheck_any (x : Cat) (A : Option Addr) (c : Nat) (w : World) (hG : GlobC w) (hs : x.sm) (hR : RdL w A c x.ch) : Calls Tryz.prog 20 #[catV x A c] w fun e w' => e = .returned (.int .i64 (if x.ok = true then 0 else 2)) ∧ Below w.heap.size w w' := by
  obtain ⟨o, ho⟩ : ∃ o, x.ok = o := ⟨_, rfl⟩
  rw [ho]
  have hb1 := below_alloc (Below.refl w.heap.size w) (catO x A c)
  have hb2 := below_alloc hb1 (.cells #[.pointer none] 91)
  have BK := blk_alloc (blk_new w (catO x A c)) (.cells #[.pointer none] 91)
  have BF := blk_new (w.alloc (catO x A c)) (.cells #[.pointer none] 91)
  have HG := Aside0.mk (hG.below hb2)
  have HR := Aside0.mk (hR.below hb2)
  have HB := Aside0.mk hb2
  rw [World.size_alloc] at BF
  clear hG hR hb1 hb2
  go_enter Tryz.func20, Tryz.ntmps20
  go_upto_region 2 with (fail)
  generalize hW : (w.alloc (catO x A c)).alloc (.cells #[.pointer none] 91) = W at BK BF HG HR HB ⊢
  generalize hb0 : w.heap.size = b1 at BK BF ⊢
  obtain ⟨y0, y1, y2, y3, y4, y5, -⟩ := cells_6 BK
  have hck := check_cat x A c W HG.out hs HR.out
  rw [ho] at hck
  cases o with
  | true =>
    clear hW BK
    go_wp2_with fail
    refine hck.mono ?_
    rintro e W1 ⟨hb, h1, -⟩
    obtain rfl := h1 rfl
    have HB1 := Aside0.mk (below_step HB.out hb)
    clear hck hb h1
    go_wp2_with fail
    refine (as_nil _ _).mono ?_
    rintro e w' ⟨rfl, rfl⟩
    go_wp2
    go_ret
    exact ⟨rfl, hb0 ▸ HB1.out⟩
  | false =>
    go_wp2_with fail
    refine hck.mono ?_
    rintro e W1 ⟨hb, -, h1⟩
    obtain ⟨bf, rfl⟩ := h1 rfl
    have hit := fa_hit ⟨bf, 0, none⟩ (b1 + 1) (.pointer none) W1 (GTyp.below HG.out.typ hb) (blk_below BF hb)
    have HB1 := Aside0.mk (below_step HB.out hb)
    have hgw : w.heap.size ≤ b1 + 1 := by omega
    clear hck hb h1 hW BK BF
    go_wp2_with fail
    refine hit.mono ?_
    rintro e W2 ⟨rfl, hk⟩
    have HB2 : Aside0 (Below w.heap.size w W2) := ⟨HB1.out.trans (hk.below (B := w.heap.size) (fun _ h => h ▸ hgw) HB1.out.size)⟩
    clear hit hk
    go_wp2
    go_ret
    exact ⟨rfl, hb0 ▸ HB2.out⟩
end Go.Proofs.YthngelbaheankaaGreatDoor.Tpl
namespace Go.Proofs.YthngelbaheankaaGreatDoor.Tpl
def upC : S → List Cat → Bool
  | _, [] => true
  | p, c :: r => c.ok && decide (p < c.n) && upC c.n r
def allC (l : List Cat) : Bool := decide (l.length ≤ 64) && upC [] l
def AtP (l : List Cat) (s : S) (i : Nat) (is : Bool) : Prop := i ≤ l.length ∧ (∀ j x, j < i → l[j]? = some x → x.n < s) ∧ (∀ j x, i ≤ j → l[j]? = some x → ¬ x.n < s) ∧ is = decide ((l[i]?).map (·.n) = some s)
theorem S_irr (s : S) : ¬ s < s := List.lt_irrefl s
theorem S_tr {a b c : S} (h : a < b) (k : b < c) : a < c := List.lt_trans h k
theorem S_tri {a b : S} (h : ¬ a < b) (k : a ≠ b) : b < a := by
  rcases Std.lt_trichotomy a b with h1 | h1 | h1
  · exact absurd h1 h
  · exact absurd h1 k
  · exact h1
theorem upC_lt {l : List Cat} : ∀ {p : S}, upC p l = true → ∀ x ∈ l, p < x.n := by
  induction l with
  | nil => intro p _ x hx; cases hx
  | cons c r ih =>
    intro p h x hx
    simp only [upC, Bool.and_eq_true, decide_eq_true_eq] at h
    rcases List.mem_cons.1 hx with rfl | hx
    · exact h.1.2
    · exact S_tr h.1.2 (ih h.2 x hx)
theorem upC_ok {l : List Cat} : ∀ {p : S}, upC p l = true → ∀ x ∈ l, x.ok = true := by
  induction l with
  | nil => intro p _ x hx; cases hx
  | cons c r ih =>
    intro p h x hx
    simp only [upC, Bool.and_eq_true, decide_eq_true_eq] at h
    rcases List.mem_cons.1 hx with rfl | hx
    · exact h.1.1
    · exact ih h.2 x hx
theorem upC_pair {l : List Cat} : ∀ {p : S}, upC p l = true → l.Pairwise fun a b => a.n < b.n := by
  induction l with
  | nil => intro p _; exact .nil
  | cons c r ih =>
    intro p h
    simp only [upC, Bool.and_eq_true, decide_eq_true_eq] at h
    exact .cons (fun x hx => upC_lt h.2 x hx) (ih h.2)
theorem upC_of {l : List Cat} : ∀ {p : S}, (∀ x ∈ l, x.ok = true) → (l.Pairwise fun a b => a.n < b.n) → (∀ x ∈ l, p < x.n) → upC p l = true := by
  induction l with
  | nil => intro p _ _ _; rfl
  | cons c r ih =>
    intro p h1 h2 h3
    simp only [upC, Bool.and_eq_true, decide_eq_true_eq]
    rw [List.pairwise_cons] at h2
    exact ⟨⟨h1 c List.mem_cons_self, h3 c List.mem_cons_self⟩, ih (fun x hx => h1 x (List.mem_cons_of_mem _ hx)) h2.2 h2.1⟩
theorem name_pos {s : S} (h : nameP s = true) : [] < s := by
  cases s with
  | nil => simp [nameP] at h
  | cons a r => exact List.nil_lt_cons a r
theorem ok_name {c : Cat} (h : c.ok = true) : nameP c.n = true := by
  simp only [Cat.ok, Bool.and_eq_true] at h
  exact h.1.1.1.1
theorem allC_iff {l : List Cat} : allC l = true ↔ l.length ≤ 64 ∧ (∀ x ∈ l, x.ok = true) ∧ l.Pairwise fun a b => a.n < b.n := by
  unfold allC
  rw [Bool.and_eq_true, decide_eq_true_eq]
  constructor
  · rintro ⟨h1, h2⟩; exact ⟨h1, upC_ok h2, upC_pair h2⟩
  · rintro ⟨h1, h2, h3⟩; exact ⟨h1, upC_of h2 h3 (fun x hx => name_pos (ok_name (h2 x hx)))⟩
def findC (l : List Cat) (s : S) : Option Cat := l.find? fun c => c.n == s
def insC (l : List Cat) (c : Cat) (i : Nat) (is : Bool) : List Cat := if is = true then l.set i c else l.take i ++ c :: l.drop i
theorem at_is {l : List Cat} {s : S} {i : Nat} {is : Bool} (h : AtP l s i is) : is = true ↔ ∃ x, l[i]? = some x ∧ x.n = s := by
  rw [h.2.2.2, decide_eq_true_eq, Option.map_eq_some_iff]
theorem at_find {l : List Cat} {s : S} {i : Nat} {is : Bool} (hp : l.Pairwise fun a b => a.n < b.n) (h : AtP l s i is) : findC l s = if is = true then l[i]? else none := by
  unfold findC
  by_cases hi : is = true
  · rw [if_pos hi]
    obtain ⟨x, hx, hn⟩ := (at_is h).1 hi
    rw [hx, List.find?_eq_some_iff_getElem]
    obtain ⟨hl, rfl⟩ := List.getElem?_eq_some_iff.1 hx
    refine ⟨by simpa using hn, i, hl, rfl, fun j hj => ?_⟩
    have h1 := h.2.1 j _ hj (List.getElem?_eq_getElem (by omega))
    simp only [Bool.not_eq_true', beq_eq_false_iff_ne]
    intro e
    rw [e] at h1
    exact S_irr _ h1
  · rw [if_neg hi, List.find?_eq_none]
    intro x hx e
    rw [beq_iff_eq] at e
    obtain ⟨j, hj⟩ := List.getElem?_of_mem hx
    rcases Nat.lt_or_ge j i with h1 | h1
    · have := h.2.1 j x h1 hj; rw [e] at this; exact S_irr _ this
    · rcases Nat.eq_or_lt_of_le h1 with h2 | h2
      · subst h2; exact hi ((at_is h).2 ⟨x, hj, e⟩)
      · obtain ⟨hl, rfl⟩ := List.getElem?_eq_some_iff.1 hj
        have hil : i < l.length := by omega
        have h3 := h.2.2.1 i _ (Nat.le_refl _) (List.getElem?_eq_getElem hil)
        have h4 := List.pairwise_iff_getElem.1 hp i j hil hl h2
        rw [e] at h4
        exact h3 h4
def rputF (c : Cat) : List Cat → Bool → List Cat
  | [], put => if put = true then [] else [c]
  | x :: r, put => (if put = false ∧ ¬ x.n < c.n then [c] else []) ++ (if x.n = c.n then [] else [x]) ++ rputF c r (put || decide (¬ x.n < c.n))
theorem rput_true (c : Cat) (l : List Cat) (h : ∀ x ∈ l, x.n ≠ c.n) : rputF c l true = l := by
  induction l with
  | nil => rfl
  | cons x r ih =>
    simp only [rputF, Bool.true_or, if_neg (h x List.mem_cons_self)]
    rw [ih (fun y hy => h y (List.mem_cons_of_mem _ hy))]
    simp
theorem rput_ins (c : Cat) (l : List Cat) : ∀ {i : Nat} {is : Bool}, (l.Pairwise fun a b => a.n < b.n) → AtP l c.n i is → rputF c l false = insC l c i is := by
  induction l with
  | nil =>
    intro i is _ h
    have h1 := h.1
    simp only [List.length_nil, Nat.le_zero] at h1
    subst h1
    have h2 : is = false := by rw [h.2.2.2]; simp
    subst h2
    simp [rputF, insC]
  | cons x r ih =>
    intro i is hp h
    rw [List.pairwise_cons] at hp
    by_cases hx : x.n < c.n
    · cases i with
      | zero => exact absurd hx (h.2.2.1 0 x (Nat.le_refl _) rfl)
      | succ i =>
        have h' : AtP r c.n i is := ⟨by have := h.1; simp at this; omega, fun j y hj hy => h.2.1 (j + 1) y (by omega) (by simpa using hy), fun j y hj hy => h.2.2.1 (j + 1) y (by omega) (by simpa using hy), by have := h.2.2.2; simpa using this⟩
        have hne : ¬ x.n = c.n := fun e => S_irr c.n (e ▸ hx)
        simp only [rputF, hx, not_true_eq_false, and_false, if_false, if_neg hne, decide_false, Bool.or_false, List.nil_append]
        rw [ih hp.2 h']
        unfold insC
        split <;> simp
    · cases i with
      | succ i => exact absurd (h.2.1 0 x (by omega) rfl) hx
      | zero =>
        have hr : ∀ y ∈ r, y.n ≠ c.n := fun y hy e => hx (e ▸ hp.1 y hy)
        simp only [rputF, hx, not_false_eq_true, and_self, if_true, decide_true, Bool.or_true]
        rw [rput_true c r hr]
        have his := h.2.2.2
        simp only [List.getElem?_cons_zero, Option.map_some, Option.some.injEq] at his
        unfold insC
        by_cases he : x.n = c.n
        · rw [if_pos he, his, decide_eq_true he]; simp
        · rw [if_neg he, his, decide_eq_false he]; simp
theorem ins_len {l : List Cat} {c : Cat} {i : Nat} {is : Bool} (h : AtP l c.n i is) : (insC l c i is).length = if is = true then l.length else l.length + 1 := by
  unfold insC
  split
  · simp
  · have := h.1; simp; omega
end Go.Proofs.YthngelbaheankaaGreatDoor.Tpl
namespace Go.Proofs.YthngelbaheankaaGreatDoor.Tpl
open Go.RowKit Go.Proofs Go.Proofs.YthngelbaheankaaGreatDoor.PB Go.Proofs.YthngelbaheankaaGreatDoor.Short Go.Proofs.YthngelbaheankaaGreatDoorW.PrintWords Go.Proofs.YthngelbaheankaaGreatDoorW.PrintLast Go.Proofs.YthngelbaheankaaGreatDoorW.PrintMore
abbrev SCt := S37
abbrev kCt : Kd SCt := k37
def Cat.of (x : Cat) : SCt := ⟨bs x.n, x.cr, x.w, x.b, x.ch.map Lev.of, bs x.s⟩
def RdC (w : World) (A : Option Addr) (c : Nat) (l : List Cat) : Prop := kCt.C w A l.length (l.map Cat.of) ∧ l.length ≤ c
theorem RdC.below {w w1 : World} {A : Option Addr} {c : Nat} {l : List Cat} (h : RdC w A c l) (hb : Below w.heap.size w w1) : RdC w1 A c l := ⟨Kd.C_below h.1 hb, h.2⟩
theorem RdC.nil (w : World) : RdC w none 0 [] := ⟨⟨rfl, Nat.zero_le _, fun h => absurd h (Nat.lt_irrefl 0)⟩, Nat.le_refl _⟩
theorem RdC.at {w : World} {A : Option Addr} {c : Nat} {l : List Cat} (h : RdC w A c l) {j : Nat} {x : Cat} (hx : l[j]? = some x) :
    ∃ ad A4 c4, A = some ad ∧ w.cell? (ad.add (j * 6)) = some (.string (bs x.n)) ∧ w.cell? ⟨(ad.add (j * 6)).block, (ad.add (j * 6)).off + 1, none⟩ = some (.bool x.cr) ∧ w.cell? ⟨(ad.add (j * 6)).block, (ad.add (j * 6)).off + 2, none⟩ = some (.int .i64 x.w) ∧
      w.cell? ⟨(ad.add (j * 6)).block, (ad.add (j * 6)).off + 3, none⟩ = some (.int .i64 x.b) ∧ w.cell? ⟨(ad.add (j * 6)).block, (ad.add (j * 6)).off + 4, none⟩ = some (.slice A4 x.ch.length c4) ∧ w.cell? ⟨(ad.add (j * 6)).block, (ad.add (j * 6)).off + 5, none⟩ = some (.string (bs x.s)) ∧ RdL w A4 c4 x.ch := by
  have hj : j < l.length := (List.getElem?_eq_some_iff.1 hx).1
  obtain ⟨ad, A4, c4, e, x0, x1, x2, x3, x4, x5, l4, g4⟩ := at_T37 h.1 (j : Int) (by omega) (by omega)
  have e3 : rd_T37 (l.map Cat.of) (j : Int) = x.of := by
    unfold rd_T37
    rw [Int.toNat_natCast, List.getD_eq_getElem?_getD, List.getElem?_map, hx]; rfl
  rw [e3] at x0 x1 x2 x3 x4 x5 l4 g4
  simp only [Int.toNat_natCast, Cat.of, List.length_map] at x0 x1 x2 x3 x4 x5 l4 g4
  exact ⟨ad, A4, c4, e, x0, x1, x2, x3, x4, x5, g4, l4⟩
def smC (l : List Cat) : Prop := l.length ≤ 1048576 ∧ ∀ x ∈ l, x.sm
def longL (l : List Lev) : Int := (l.map fun x => x.w + x.p * (x.t - 1)).sum
theorem longL_take {l : List Lev} {j : Nat} {x : Lev} (hx : l[j]? = some x) : longL (l.take (j + 1)) = longL (l.take j) + (x.w + x.p * (x.t - 1)) := by
  unfold longL
  rw [List.take_add_one, hx, Option.toList_some, List.map_append, List.sum_append]
  simp
theorem lev_bound {x : Lev} (h : x.ok = true) : 0 ≤ x.w ∧ x.w ≤ 2592000 ∧ 1 ≤ x.p ∧ x.p ≤ 2592000 ∧ 1 ≤ x.t ∧ x.t ≤ 5 ∧ 0 ≤ x.p * (x.t - 1) ∧ x.p * (x.t - 1) ≤ 10368000 := by
  simp only [Lev.ok, levP, spanP, Bool.and_eq_true, decide_eq_true_eq] at h
  obtain ⟨⟨⟨_, h1, h2⟩, h3, h4⟩, h5, h6⟩ := h
  refine ⟨h1, h2, h3, h4, h5, h6, Int.mul_nonneg (by omega) (by omega), ?_⟩
  have h7 : x.p * (x.t - 1) ≤ 2592000 * 4 := Int.mul_le_mul h4 (by omega) (by omega) (by decide)
  omega
theorem longL_bound : ∀ {l : List Lev}, l.all Lev.ok = true → 0 ≤ longL l ∧ longL l ≤ l.length * 12960000 := by
  intro l
  induction l with
  | nil => intro _; exact ⟨by decide, by decide⟩
  | cons x r ih =>
    intro h
    rw [List.all_cons, Bool.and_eq_true] at h
    have h1 := ih h.2
    have h2 := lev_bound h.1
    have e : longL (x :: r) = (x.w + x.p * (x.t - 1)) + longL r := by unfold longL; rw [List.map_cons, List.sum_cons]
    rw [e, List.length_cons]
    generalize longL r = a at h1 ⊢
    generalize x.p * (x.t - 1) = m at h2 ⊢
    omega
theorem ok_ch {x : Cat} (h : x.ok = true) : x.ch.length ≤ 4 ∧ x.ch.all Lev.ok = true := by
  simp only [Cat.ok, Bool.and_eq_true, decide_eq_true_eq] at h
  exact ⟨h.1.1.2.2, h.1.2⟩
theorem all_get {l : List Lev} (h : l.all Lev.ok = true) {j : Nat} {x : Lev} (hx : l[j]? = some x) : x.ok = true := List.all_eq_true.1 h x (List.mem_of_getElem? hx)
theorem all_take {l : List Lev} (h : l.all Lev.ok = true) (j : Nat) : (l.take j).all Lev.ok = true := List.all_eq_true.2 fun x hx => List.all_eq_true.1 h x (List.mem_of_mem_take hx)
def longP (x : Cat) : Int := if x.ok = true then longL x.ch else 0
def whyP (x : Cat) : Int := if x.ok = true then 0 else 2
set_option maxHeartbeats 2000000 in
set_option maxRecDepth 100000 in
theorem clong_any (x : Cat) (A : Option Addr) (c : Nat) (w : World) (hG : GlobC w) (hs : x.sm) (hR : RdL w A c x.ch) : Calls Tryz.prog 15 #[catV x A c] w fun e w' => e = .returned (.tuple #[.int .i64 (longP x), .int .i64 (whyP x)]) ∧ Below w.heap.size w w' := by
  obtain ⟨lg, hlg⟩ : ∃ z, longP x = z := ⟨_, rfl⟩
  obtain ⟨wy, hwy⟩ : ∃ z, whyP x = z := ⟨_, rfl⟩
  rw [hlg, hwy]
  have hb1 := below_alloc (Below.refl w.heap.size w) (catO x A c)
  have BK := blk_new w (catO x A c)
  have HG := Aside0.mk (hG.below hb1)
  have HR := Aside0.mk (hR.below hb1)
  have HB := Aside0.mk hb1
  have HL := Aside0.mk hlg
  have HW := Aside0.mk hwy
  clear hG hR hb1 hlg hwy
  go_enter Tryz.func15, Tryz.ntmps15
  go_upto_region 1 with (fail)
  generalize w.alloc (catO x A c) = W at BK HG HB HR ⊢
  generalize w.heap.size = b1 at BK ⊢
  obtain ⟨y0, y1, y2, y3, y4, y5, -⟩ := cells_6 BK
  have hck := ccheck_any x A c W HG.out hs HR.out
  go_wp2_with fail
  refine hck.mono ?_
  rintro e W1 ⟨rfl, hb⟩
  have BK1 := Aside0.mk (blk_below BK hb)
  have HB1 := Aside0.mk (below_step HB.out hb)
  have HR1 := Aside0.mk (HR.out.below hb)
  clear hck hb BK HB HR HG y0 y1 y2 y3 y4 y5
  obtain ⟨y0, y1, y2, y3, y4, y5, -⟩ := cells_6 BK1.out
  cases hok : x.ok with
  | false =>
    obtain rfl : 0 = lg := by rw [← HL.out]; unfold longP; rw [hok]; rfl
    obtain rfl : 2 = wy := by rw [← HW.out]; unfold whyP; rw [hok]; rfl
    go_wp2
    go_ret2
    exact ⟨rfl, HB1.out⟩
  | true =>
    obtain rfl : 0 = wy := by rw [← HW.out]; unfold whyP; rw [hok]; rfl
    have HL2 : Aside0 (longL x.ch = lg) := ⟨by rw [← HL.out]; unfold longP; rw [hok]; rfl⟩
    obtain ⟨hc4, hall⟩ := ok_ch hok
    have HA := Aside0.mk hall
    clear HL HW hok hall
    go_wp2
    clear y0 y1 y2 y3 y4 y5
    go_loopw [5, 16] (fun v5 v wr => ∃ j : Nat, v = .int .i64 j ∧ j ≤ x.ch.length ∧ v5 = .int .i64 (longL (x.ch.take j)) ∧ Aside0 (Below W1.heap.size W1 wr)) (fun _ v _ => x.ch.length - (intOf v).toNat)
    case atStart => exact ⟨0, rfl, Nat.zero_le _, rfl, ⟨Below.refl _ _⟩⟩
    case round =>
      obtain ⟨j, rfl, hj, rfl, HW⟩ := hrel
      by_cases hlt : j < x.ch.length
      · have hx : x.ch[j]? = some x.ch[j] := List.getElem?_eq_getElem hlt
        obtain ⟨ad, rfl, z0, z1, z2, z3⟩ := (HR1.out.below HW.out).at hx
        have htk := longL_take hx
        have hbd := lev_bound (all_get HA.out hx)
        have hac := longL_bound (all_take HA.out j)
        rw [List.length_take] at hac
        have hbl := below_alloc (Below.refl wr.heap.size wr) (.cells #[.int .u8 x.ch[j].c, .int .i64 x.ch[j].w, .int .i64 x.ch[j].t, .int .i64 x.ch[j].p] 41)
        generalize x.ch[j] = l at z0 z1 z2 z3 htk hbd hbl
        generalize hac0 : longL (x.ch.take j) = acc at htk hac ⊢
        obtain ⟨m, hm⟩ : ∃ m, l.p * (l.t - 1) = m := ⟨_, rfl⟩
        rw [hm] at hbd htk
        have hacb : acc ≤ 4 * 12960000 := by have := hac.2; omega
        have hw1 : IntKind.i64.wrap (l.t - 1) = l.t - 1 := by rw [IntKind.wrap_i64]; omega
        have hw2 : IntKind.i64.wrap (l.p * (l.t - 1)) = m := by rw [hm, IntKind.wrap_i64]; omega
        have hw3 : IntKind.i64.wrap (l.w + m) = l.w + m := by rw [IntKind.wrap_i64]; omega
        have hw4 : IntKind.i64.wrap (acc + (l.w + m)) = acc + (l.w + m) := by rw [IntKind.wrap_i64]; omega
        have HWl := Aside0.mk (below_step HW.out hbl)
        have HT := Aside0.mk htk
        clear hx hbl htk hbd hac hac0 hacb hm
        go_wp2
        go_round
        case rel => exact ⟨j + 1, by go_num, by omega, by rw [HT.out], HWl⟩
        case measure => simp [intOf]; omega
      · obtain rfl : j = x.ch.length := by omega
        rw [List.take_length, HL2.out]
        go_wp2
        go_ret2
        exact ⟨rfl, below_step HB1.out HW.out⟩
end Go.Proofs.YthngelbaheankaaGreatDoor.Tpl
namespace Go.Proofs.YthngelbaheankaaGreatDoor.Tpl
open Go.RowKit Go.Proofs Go.Proofs.YthngelbaheankaaGreatDoor.PB Go.Proofs.YthngelbaheankaaGreatDoor.Short Go.Proofs.YthngelbaheankaaGreatDoorW.PrintWords Go.Proofs.YthngelbaheankaaGreatDoorW.PrintLast Go.Proofs.YthngelbaheankaaGreatDoorW.PrintMore
abbrev put4 (W : World) (g o : Nat) (a0 a1 a2 a3 : Value) : World := (((W.setCell ⟨g, o, none⟩ a0).setCell ⟨g, o + 1, none⟩ a1).setCell ⟨g, o + 2, none⟩ a2).setCell ⟨g, o + 3, none⟩ a3
theorem put4_below {w W : World} {g o : Nat} {a0 a1 a2 a3 : Value} (h : Below w.heap.size w W) (hg : w.heap.size ≤ g) : Below w.heap.size w (put4 W g o a0 a1 a2 a3) := below_set (below_set (below_set (below_set h hg) hg) hg) hg
theorem put4_blk {W : World} {g t : Nat} {a0 a1 a2 a3 b0 b1 b2 b3 : Value} (h : W.heap[g]? = some (.cells #[a0, a1, a2, a3] t (0, 0))) : (put4 W g 0 b0 b1 b2 b3).heap[g]? = some (.cells #[b0, b1, b2, b3] t (0, 0)) := blk_put (blk_put (blk_put (blk_put h 0 _ rfl) 1 _ rfl) 2 _ rfl) 3 _ rfl
abbrev put6 (W : World) (g o : Nat) (a0 a1 a2 a3 a4 a5 : Value) : World := (((((W.setCell ⟨g, o, none⟩ a0).setCell ⟨g, o + 1, none⟩ a1).setCell ⟨g, o + 2, none⟩ a2).setCell ⟨g, o + 3, none⟩ a3).setCell ⟨g, o + 4, none⟩ a4).setCell ⟨g, o + 5, none⟩ a5
theorem put6_far {W : World} {g o : Nat} {a0 a1 a2 a3 a4 a5 : Value} {k : Nat} (h : k ≠ g) : (put6 W g o a0 a1 a2 a3 a4 a5).heap[k]? = W.heap[k]? := by
  unfold put6
  rw [Below.heap_setCell _ _ _ _ h, Below.heap_setCell _ _ _ _ h, Below.heap_setCell _ _ _ _ h, Below.heap_setCell _ _ _ _ h, Below.heap_setCell _ _ _ _ h, Below.heap_setCell _ _ _ _ h]
theorem put6_below {w W : World} {g o : Nat} {a0 a1 a2 a3 a4 a5 : Value} (h : Below w.heap.size w W) (hg : w.heap.size ≤ g) : Below w.heap.size w (put6 W g o a0 a1 a2 a3 a4 a5) := below_set (below_set (below_set (below_set (below_set (below_set h hg) hg) hg) hg) hg) hg
theorem put6_blk {W : World} {g t : Nat} {a0 a1 a2 a3 a4 a5 b0 b1 b2 b3 b4 b5 : Value} (h : W.heap[g]? = some (.cells #[a0, a1, a2, a3, a4, a5] t (0, 0))) : (put6 W g 0 b0 b1 b2 b3 b4 b5).heap[g]? = some (.cells #[b0, b1, b2, b3, b4, b5] t (0, 0)) := blk_put (blk_put (blk_put (blk_put (blk_put (blk_put h 0 _ rfl) 1 _ rfl) 2 _ rfl) 3 _ rfl) 4 _ rfl) 5 _ rfl
def Lev.zero : Lev := ⟨0, 0, 0, 0⟩
def levAt (x : Cat) (i : Int) : Lev × Int := if x.ok = true then (if 0 ≤ i ∧ i < x.ch.length then (x.ch.getD i.toNat Lev.zero, 0) else (Lev.zero, 3)) else (Lev.zero, 2)
abbrev levO : Obj := .cells #[.int .u8 0, .int .i64 0, .int .i64 0, .int .i64 0] 41
set_option maxHeartbeats 2000000 in
set_option maxRecDepth 100000 in
theorem clevel_any (x : Cat) (A : Option Addr) (c : Nat) (i : Int) (w : World) (hG : GlobC w) (hs : x.sm) (hR : RdL w A c x.ch) : Calls Tryz.prog 17 #[catV x A c, .int .i64 i] w fun e w' => e = .returned (.tuple #[levV (levAt x i).1.c (levAt x i).1.w (levAt x i).1.t (levAt x i).1.p, .int .i64 (levAt x i).2]) ∧ Below w.heap.size w w' := by
  obtain ⟨r, hr⟩ : ∃ z, levAt x i = z := ⟨_, rfl⟩
  rw [hr]
  have hb1 := below_alloc (below_alloc (Below.refl w.heap.size w) (catO x A c)) levO
  have BK := blk_alloc (blk_new w (catO x A c)) levO
  have BL := blk_new (w.alloc (catO x A c)) levO
  rw [World.size_alloc] at BL
  have HG := Aside0.mk (hG.below hb1)
  have HR := Aside0.mk (hR.below hb1)
  have HB := Aside0.mk hb1
  have HH := Aside0.mk hr
  clear hG hR hb1 hr
  go_enter Tryz.func17, Tryz.ntmps17
  go_upto_region 1 with (fail)
  generalize (w.alloc (catO x A c)).alloc levO = W at BK BL HG HB HR ⊢
  obtain ⟨b1, hb1⟩ : ∃ b, w.heap.size = b := ⟨_, rfl⟩
  have Hb1 : Aside0 (w.heap.size ≤ b1 + 1) := ⟨by omega⟩
  rw [hb1] at BK BL ⊢
  clear hb1
  obtain ⟨y0, y1, y2, y3, y4, y5, -⟩ := cells_6 BK
  have hck := ccheck_any x A c W HG.out hs HR.out
  go_wp2_with fail
  refine hck.mono ?_
  rintro e W1 ⟨rfl, hb⟩
  have BK1 := Aside0.mk (blk_below BK hb)
  have BL1 := Aside0.mk (blk_below BL hb)
  have HB1 := Aside0.mk (below_step HB.out hb)
  have HR1 := Aside0.mk (HR.out.below hb)
  clear hck hb BK BL HB HR HG y0 y1 y2 y3 y4 y5
  obtain ⟨y0, y1, y2, y3, y4, y5, -⟩ := cells_6 BK1.out
  obtain ⟨u0, u1, u2, u3, v0, v1, v2, v3⟩ := cells_4 BL1.out
  cases hok : x.ok with
  | false =>
    obtain rfl : (Lev.zero, 2) = r := by rw [← HH.out]; unfold levAt; rw [hok]; rfl
    go_wp2
    refine bodyPost_ret (results_ct rfl _ _ (b1 + 1) 41 #[.int .u8 0, .int .i64 0, .int .i64 0, .int .i64 0] (0, 0) _ rfl (put4_blk BL1.out) Tryz.underlying41 rfl (by kernel_rfl)) rfl ?_
    exact ⟨rfl, put4_below HB1.out Hb1.out⟩
  | true =>
    by_cases h1 : i < 0
    · obtain rfl : (Lev.zero, 3) = r := by rw [← HH.out]; unfold levAt; rw [hok, if_pos rfl, if_neg (by omega)]
      go_wp2
      refine bodyPost_ret (results_ct rfl _ _ (b1 + 1) 41 #[.int .u8 0, .int .i64 0, .int .i64 0, .int .i64 0] (0, 0) _ rfl (put4_blk BL1.out) Tryz.underlying41 rfl (by kernel_rfl)) rfl ?_
      exact ⟨rfl, put4_below HB1.out Hb1.out⟩
    · by_cases h2 : (x.ch.length : Int) ≤ i
      · obtain rfl : (Lev.zero, 3) = r := by rw [← HH.out]; unfold levAt; rw [hok, if_pos rfl, if_neg (by omega)]
        go_wp2
        refine bodyPost_ret (results_ct rfl _ _ (b1 + 1) 41 #[.int .u8 0, .int .i64 0, .int .i64 0, .int .i64 0] (0, 0) _ rfl (put4_blk BL1.out) Tryz.underlying41 rfl (by kernel_rfl)) rfl ?_
        exact ⟨rfl, put4_below HB1.out Hb1.out⟩
      · obtain ⟨j, rfl⟩ : ∃ j : Nat, i = j := ⟨i.toNat, by omega⟩
        have hlt : j < x.ch.length := by omega
        have hx : x.ch[j]? = some x.ch[j] := List.getElem?_eq_getElem hlt
        obtain ⟨ad, rfl, z0, z1, z2, z3⟩ := HR1.out.at hx
        have hH := HH.out
        unfold levAt at hH
        rw [hok, if_pos rfl, if_pos (by omega), Int.toNat_natCast, List.getD_eq_getElem?_getD, hx, Option.getD_some] at hH
        generalize x.ch[j] = l at z0 z1 z2 z3 hH
        obtain rfl : (l, 0) = r := hH
        clear HH hx
        go_wp2
        refine bodyPost_ret (results_ct rfl _ _ (b1 + 1) 41 #[.int .u8 l.c, .int .i64 l.w, .int .i64 l.t, .int .i64 l.p] (0, 0) _ rfl (put4_blk BL1.out) Tryz.underlying41 rfl (by kernel_rfl)) rfl ?_
        exact ⟨rfl, put4_below HB1.out Hb1.out⟩
end Go.Proofs.YthngelbaheankaaGreatDoor.Tpl
namespace Go.Proofs.YthngelbaheankaaGreatDoor.Tpl
open Go.RowKit Go.Proofs Go.Proofs.YthngelbaheankaaGreatDoor.PB Go.Proofs.YthngelbaheankaaGreatDoor.Short Go.Proofs.YthngelbaheankaaGreatDoorW.PrintWords Go.Proofs.YthngelbaheankaaGreatDoorW.PrintLast Go.Proofs.YthngelbaheankaaGreatDoorW.PrintMore
attribute [local go_sem] leq_spell
theorem up_drop {l : List Cat} {j : Nat} {x : Cat} {p : S} (hx : l[j]? = some x) : upC p (l.drop j) = (x.ok && decide (p < x.n) && upC x.n (l.drop (j + 1))) := by
  obtain ⟨hj, rfl⟩ := List.getElem?_eq_some_iff.1 hx
  rw [List.drop_eq_getElem_cons hj]; rfl
def whyA (l : List Cat) : Int := if allC l = true then 0 else 2
set_option maxHeartbeats 2000000 in
set_option maxRecDepth 100000 in
theorem call_any (l : List Cat) (A : Option Addr) (c : Nat) (w : World) (hG : GlobC w) (hs : smC l) (hR : RdC w A c l) : Calls Tryz.prog 32 #[.slice A l.length c] w fun e w' => e = .returned (.int .i64 (whyA l)) ∧ Below w.heap.size w w' := by
  obtain ⟨r, hr⟩ : ∃ z, whyA l = z := ⟨_, rfl⟩
  rw [hr]
  unfold whyA allC at hr
  have HG := Aside0.mk hG
  have HR := Aside0.mk hR
  have HS := Aside0.mk hs
  have hl0 := hs.1
  clear hG hR hs
  by_cases h64 : 64 < (l.length : Int)
  · obtain rfl : 2 = r := by rw [← hr, decide_eq_false (by omega)]; rfl
    go_enter Tryz.func32, Tryz.ntmps32
    go_wp2
    go_ret
    exact ⟨rfl, Below.refl _ _⟩
  rw [decide_eq_true (show l.length ≤ 64 by omega), Bool.true_and] at hr
  have HH := Aside0.mk hr
  clear hr
  go_enter Tryz.func32, Tryz.ntmps32
  go_wp2
  go_loopw [3, 11] (fun v3 v wr => ∃ (j : Nat) (p : S), v = .int .i64 j ∧ j ≤ l.length ∧ v3 = .string (bs p) ∧ Aside0 ((if upC p (l.drop j) = true then 0 else 2) = r) ∧ Aside0 (Below w.heap.size w wr)) (fun _ v _ => l.length - (intOf v).toNat)
  case atStart => exact ⟨0, [], rfl, Nat.zero_le _, rfl, ⟨by rw [List.drop_zero]; exact HH.out⟩, ⟨Below.refl _ _⟩⟩
  case round =>
    obtain ⟨j, p, rfl, hj, rfl, HY, HW⟩ := hrel
    by_cases hlt : j < l.length
    · have hx : l[j]? = some l[j] := List.getElem?_eq_getElem hlt
      obtain ⟨ad, A4, c4, rfl, z0, z1, z2, z3, z4, z5, hRL⟩ := (HR.out.below HW.out).at hx
      rw [up_drop hx] at HY
      have hsx := HS.out.2 _ (List.mem_of_getElem? hx)
      generalize l[j] = x at z0 z1 z2 z3 z4 z5 hRL HY hsx
      have hbl := below_alloc (Below.refl wr.heap.size wr) (catO x A4 c4)
      have BX := blk_new wr (catO x A4 c4)
      have HWl := Aside0.mk (below_step HW.out hbl)
      have hck := ccheck_any x A4 c4 (wr.alloc (catO x A4 c4)) (HG.out.below HWl.out) hsx (hRL.below hbl)
      generalize x.ok = ok at hck HY
      clear hx hbl hRL
      go_upto_region 7 with (fail)
      clear z0 z1 z2 z3 z4 z5
      generalize wr.alloc (catO x A4 c4) = W at BX HWl hck ⊢
      generalize wr.heap.size = gx at BX ⊢
      obtain ⟨z0, z1, z2, z3, z4, z5, -⟩ := cells_6 BX
      go_wp2_with fail
      refine hck.mono ?_
      rintro e W3 ⟨rfl, hb⟩
      have HW3 := Aside0.mk (below_step HWl.out hb)
      obtain ⟨z0, z1, z2, z3, z4, z5, -⟩ := cells_6 (blk_below BX hb)
      clear hck hb BX
      cases ok with
      | false =>
        obtain rfl : 2 = r := HY.out
        go_wp2
        go_ret
        exact ⟨rfl, HW3.out⟩
      | true =>
        have hy := HY.out
        rw [Bool.true_and] at hy
        by_cases hp : p < x.n
        · have e0 : Op.bytesLess (bs p).toList (bs x.n).toList = true := by rw [bytesLess_eq, bs_list, bs_list, decide_eq_true hp]
          rw [decide_eq_true hp, Bool.true_and] at hy
          have HY2 := Aside0.mk hy
          clear hy HY hp
          go_wp2
          go_round
          case rel => exact ⟨j + 1, x.n, by go_num, by omega, rfl, HY2, HW3⟩
          case measure => simp [intOf]; omega
        · have e0 : Op.bytesLess (bs p).toList (bs x.n).toList = false := by rw [bytesLess_eq, bs_list, bs_list, decide_eq_false hp]
          rw [decide_eq_false hp, Bool.false_and] at hy
          obtain rfl : 2 = r := hy
          clear HY hp
          go_wp2
          go_ret
          exact ⟨rfl, HW3.out⟩
    · obtain rfl : j = l.length := by omega
      obtain rfl : 0 = r := by have := HY.out; rw [List.drop_length] at this; exact this
      go_wp2
      go_ret
      exact ⟨rfl, HW.out⟩
end Go.Proofs.YthngelbaheankaaGreatDoor.Tpl
namespace Go.Proofs.YthngelbaheankaaGreatDoor.Tpl
open Go.RowKit Go.Proofs Go.Proofs.YthngelbaheankaaGreatDoor.PB Go.Proofs.YthngelbaheankaaGreatDoor.Short Go.Proofs.YthngelbaheankaaGreatDoorW.PrintWords Go.Proofs.YthngelbaheankaaGreatDoorW.PrintLast Go.Proofs.YthngelbaheankaaGreatDoorW.PrintMore
def namesC (l : List Cat) : List S := l.map (·.n)
theorem bytes16 {n : Nat} (h : n ≤ 3145728) : (n + 1) * 16 ≤ 140737488355328 := by omega
set_option maxHeartbeats 4000000 in
set_option maxRecDepth 100000 in
theorem cnames_any (l : List Cat) (A : Option Addr) (c : Nat) (w : World) (hG : GlobC w) (hs : smC l) (hR : RdC w A c l) :
    Calls Tryz.prog 27 #[.slice A l.length c] w fun e w' => (∃ An cn, e = .returned (.tuple #[.slice An (if allC l = true then namesC l else []).length cn, .int .i64 (whyA l)]) ∧ RdS w' An cn (if allC l = true then namesC l else [])) ∧ Below w.heap.size w w' := by
  obtain ⟨r, hr⟩ : ∃ z, whyA l = z := ⟨_, rfl⟩
  obtain ⟨ns, hns⟩ : ∃ z, (if allC l = true then namesC l else []) = z := ⟨_, rfl⟩
  have hck := call_any l A c w hG hs hR
  rw [hns, hr]
  rw [hr] at hck
  have hr2 : (if allC l = true then (0 : Int) else 2) = r := hr
  have HR := Aside0.mk hR
  have hl0 := hs.1
  clear hG hR hs hr
  cases hall : allC l with
  | false =>
    have h3 : (2 : Int) = r := by rw [← hr2, hall]; rfl
    have h4 : ([] : List S) = ns := by rw [← hns, hall]; rfl
    clear hall hr2 hns
    subst h3 h4
    go_enter Tryz.func27, Tryz.ntmps27
    go_wp2_with fail
    refine hck.mono ?_
    rintro e W1 ⟨rfl, hb⟩
    have HB := Aside0.mk hb
    clear hck hb
    go_wp2
    go_ret2
    exact ⟨⟨none, 0, rfl, ⟨⟨rfl, Nat.zero_le _, fun h => absurd h (by simp)⟩, Nat.le_refl _⟩⟩, HB.out⟩
  | true =>
    have h3 : (0 : Int) = r := by rw [← hr2, hall]; rfl
    have HN : Aside0 (namesC l = ns) := ⟨by rw [← hns, hall]; rfl⟩
    clear hall hr2 hns
    subst h3
    go_enter Tryz.func27, Tryz.ntmps27
    go_wp2_with fail
    refine hck.mono ?_
    rintro e W1 ⟨rfl, hb⟩
    have HB := Aside0.mk hb
    have HRw : ∀ wr, Below w.heap.size w wr → RdC wr A c l := fun wr h => HR.out.below h
    clear hck hb HR
    go_wp2
    go_loopw [5, 15] (fun v5 v wr => ∃ (j : Nat) (u : Value), u = v5 ∧ v = .int .i64 j ∧ j ≤ l.length ∧ Aside0 (Kd.string.R 9 wr w.heap.size (fun _ => True) u ((namesC (l.take j)).map bs)) ∧ Aside0 (Below w.heap.size w wr)) (fun _ v _ => l.length - (intOf v).toNat)
    case atStart => exact ⟨0, _, rfl, rfl, Nat.zero_le _, ⟨Kd.R_nil _ _ _ _ _⟩, HB⟩
    case round =>
      obtain ⟨j, u5, rfl, rfl, hj, HN5, HW⟩ := hrel
      by_cases hlt : j < l.length
      · have hx : l[j]? = some l[j] := List.getElem?_eq_getElem hlt
        have hW1 : Below W1.heap.size W1 wr → True := fun _ => trivial
        obtain ⟨ad, A4, c4, rfl, z0, z1, z2, z3, z4, z5, -⟩ := (HRw wr HW.out).at hx
        have htk : (namesC (l.take (j + 1))).map bs = (namesC (l.take j)).map bs ++ [bs l[j].n] := by
          unfold namesC
          rw [List.take_add_one, hx, Option.toList_some, List.map_append, List.map_append]; rfl
        generalize l[j] = x at z0 z1 z2 z3 z4 z5 htk
        have hlen : ((namesC (l.take j)).map bs).length ≤ 1048576 := by unfold namesC; simp only [List.length_map, List.length_take]; omega
        generalize (namesC (l.take j)).map bs = xs at HN5 htk hlen
        have hbl := below_alloc (Below.refl wr.heap.size wr) (catO x A4 c4)
        have BX := blk_new wr (catO x A4 c4)
        have HWl := Aside0.mk (below_step HW.out hbl)
        have HN6 := Aside0.mk (Kd.R_below HN5.out hbl)
        have HT := Aside0.mk htk
        clear hx htk hbl hW1 HN5
        go_upto_region 8 with (fail)
        clear z0 z1 z2 z3 z4 z5
        generalize wr.alloc (catO x A4 c4) = W at BX HWl HN6 ⊢
        generalize wr.heap.size = gx at BX ⊢
        obtain ⟨z0, z1, z2, z3, z4, z5, -⟩ := cells_6 BX
        go_wp2_with (at_builtin; go_loud (refine Kd.R_append Kd.string w.heap.size rfl _ _ 25 9 _ 16 rfl Tryz.underlying25 info_str rfl (by decide) (by decide) u5 xs (bs x.n) [.string (bs x.n)] (fun _ => True) (fun _ => False) (by rfl) (by rfl) ?_ (fun _ hk => hk.elim) (fun _ _ => trivial) HN6.out HWl.out HWl.out.size (bytes16 (by omega)) ?_); (exact rfl); (intro v4 w4 hR4 hB4 hg4 hat4))
        rw [← HT.out] at hR4
        have HR4 := Aside0.mk hR4
        have HW4 := Aside0.mk hB4
        clear hR4 hB4 hg4 hat4
        go_wp2
        go_roundw
        case rel => exact ⟨j + 1, _, rfl, by simp, by omega, HR4, HW4⟩
        case measure => simp [intOf]; omega
      · obtain rfl : j = l.length := by omega
        have hfin := HN5.out
        rw [List.take_length, HN.out] at hfin
        obtain ⟨Ap, cp, rfl, hle, hC⟩ := Kd.R_reads hfin
        clear hfin
        go_wp2
        go_ret2
        rw [List.length_map] at hle hC
        exact ⟨⟨Ap, cp, by simp, ⟨hC, hle⟩⟩, HW.out⟩
end Go.Proofs.YthngelbaheankaaGreatDoor.Tpl
namespace Go.Proofs.YthngelbaheankaaGreatDoor.Tpl
open Go.RowKit Go.Proofs Go.Proofs.YthngelbaheankaaGreatDoor.Ins Go.Proofs.YthngelbaheankaaGreatDoor.PB Go.Proofs.YthngelbaheankaaGreatDoor.Short Go.Proofs.YthngelbaheankaaGreatDoorW.PrintWords Go.Proofs.YthngelbaheankaaGreatDoorW.PrintLast Go.Proofs.YthngelbaheankaaGreatDoorW.PrintMore
theorem insC_info : (Tryz.prog.info? 37).map (·.size) = some 6 := by kernel_rfl
theorem insC_ov (vb b off la ca lb cb : Nat) (w : World) (hvb : vb ≠ b) (cur vs : Array Value) (t t' : TypeId) (hg : w.heap[b]? = some (.cells cur t (0, 0))) (hv : w.heap[vb]? = some (.cells vs t' (0, 0))) (hc : cur.size ≠ 0) :
    (callFunc 103 #[.slice (some ⟨vb, 0, none⟩) la ca, .slice (some ⟨b, off, none⟩) lb cb]).run Tryz.prog w = .ok (.value (.bool false)) w := by
  rw [run_callFunc_extern Tryz.func103 (by kernel_rfl) (by kernel_rfl) (by kernel_rfl) (e := Extern.SlicesOverlaps.overlaps #[46, 46] #[4]) (by kernel_rfl),
    Lib.run_overlaps_apart w 46 4 37 Tryz.underlying46 6 (fun w => by kernel_rfl) ⟨vb, 0, none⟩ ⟨b, off, none⟩ la ca lb cb hvb t' t vs.size cur.size (by simp [World.shape?, hv]) (by simp [World.shape?, hg]) hc (by simp [World.frozen?, hv]) (by simp [World.frozen?, hv])]
  rfl
set_option maxHeartbeats 4000000 in
set_option maxRecDepth 100000 in
theorem insC_shift (b n c i vb : Nat) (cur : Array Value) (vs : List Value) (w : World) (hi : i < n) (hroom : n + 1 ≤ c) (hc63 : c ≤ 9223372036854775807) (hvb : vb ≠ b)
    (hg : w.heap[b]? = some (.cells cur 37 (0, 0))) (hsz : cur.size = c * 6)
    (hv : w.heap[vb]? = some (.cells vs.toArray 37 (0, 0))) (hvl : vs.length = 6) (h1c : ∀ v ∈ cur.toList.take (n * 6), v.oneCell' = true) (h1v : ∀ v ∈ vs, v.oneCell' = true) :
    Calls Tryz.prog 61 #[.slice (some ⟨b, 0, none⟩) n c, .int .i64 i, .slice (some ⟨vb, 0, none⟩) 1 1] w fun e w' =>
      e = .returned (.slice (some ⟨b, 0, none⟩) (n + 1) c) ∧ ∃ arr : Array Value, w'.heap[b]? = some (.cells arr 37 (0, 0)) ∧ arr.size = cur.size ∧ arr.toList.take ((n + 1) * 6) = (cur.toList.take (n * 6)).take (i * 6) ++ vs ++ (cur.toList.take (n * 6)).drop (i * 6) ∧
        w.grownBy w' (some b) ∧ ∀ B, B ≤ b → Below B w w' := by
  have hlt : cur.toList.length = c * 6 := by rw [Array.length_toList]; exact hsz
  have hinl : (cur.toList.take (n * 6)).length = n * 6 := by rw [List.length_take]; omega
  have hdl : ((cur.toList.take (n * 6)).drop (i * 6)).length = (n - i) * 6 := by rw [List.length_drop, hinl]; omega
  obtain ⟨hA, hB⟩ := shift_list cur.toList vs (i * 6) 6 (n * 6) (by omega) (by omega) hvl
  generalize hin : cur.toList.take (n * 6) = inner at *
  generalize hr1 : cur.toList.take (i * 6 + 6) ++ inner.drop (i * 6) ++ cur.toList.drop (i * 6 + 6 + (inner.drop (i * 6)).length) = arr1 at *
  generalize hr2 : arr1.take (i * 6) ++ vs ++ arr1.drop (i * 6 + vs.length) = arr2 at *
  have hl1 : arr1.length = c * 6 := by rw [← hr1]; simp only [List.length_append, List.length_take, List.length_drop, hdl, hlt]; omega
  have hcell : ∀ (W : World) (cu : Array Value) (t : TypeId), W.heap[b]? = some (.cells cu t (0, 0)) → ∀ j, W.cell? ⟨b, j, none⟩ = cu[j]? := fun W cu t h j => by simp [World.cell?, h]
  have hcp1 : ∀ ty dc sc, (Builtin.copy_ #[46, 46] ty #[.slice (some ⟨b, (i + 1) * 6, none⟩) (n + 1 - (i + 1)) dc, .slice (some ⟨b, i * 6, none⟩) (n + 1 - i) sc]).run Tryz.prog w.drew = .ok (goInt ((n - i : Nat) : Int)) (w.drew.setRow b arr1.toArray) := fun ty dc sc => by
    have h := run_copyK (P := Tryz.prog) w.drew 46 46 ty 37 6 b ((i + 1) * 6) (n + 1 - (i + 1)) dc ⟨b, i * 6, none⟩ (n + 1 - i) sc cur 37 (inner.drop (i * 6)) Tryz.underlying46 insC_info hg (by rw [hdl]; simp only [Nat.min_def]; split <;> omega)
      (fun j v hj => by
        rw [Addr.add_lit, hcell w.drew cur _ hg]
        rw [List.getElem?_drop, ← hin, List.getElem?_take] at hj
        split at hj
        · rwa [Array.getElem?_toList] at hj
        · cases hj)
      (by rw [hdl, hsz]; omega) (fun v hv => h1c v (List.mem_of_mem_drop hv))
    rw [show Nat.min (n + 1 - i) (n + 1 - (i + 1)) = n - i by simp only [Nat.min_def]; split <;> omega, show (i + 1) * 6 = i * 6 + 6 by omega, hr1] at h
    rw [show (i + 1) * 6 = i * 6 + 6 by omega]
    exact h
  obtain ⟨W1, hW1⟩ : ∃ W1, W1 = w.drew.setRow b arr1.toArray := ⟨_, rfl⟩
  have hg1 : W1.heap[b]? = some (.cells arr1.toArray 37 (0, 0)) := by rw [hW1]; exact setRow_heap w.drew b cur arr1.toArray _ _ hg
  have hv1 : W1.heap[vb]? = some (.cells vs.toArray 37 (0, 0)) := by rw [hW1, setRow_other _ _ _ _ hvb]; exact hv
  have hcp2 : ∀ ty dc, (Builtin.copy_ #[46, 46] ty #[.slice (some ⟨b, i * 6, none⟩) (n + 1 - i) dc, .slice (some ⟨vb, 0, none⟩) 1 1]).run Tryz.prog W1 = .ok (goInt 1) (W1.setRow b arr2.toArray) := fun ty dc => by
    have h := run_copyK (P := Tryz.prog) W1 46 46 ty 37 6 b (i * 6) (n + 1 - i) dc ⟨vb, 0, none⟩ 1 1 arr1.toArray 37 vs Tryz.underlying46 insC_info hg1 (by rw [hvl]; simp only [Nat.min_def]; split <;> omega)
      (fun j v hj => by rw [Addr.add_lit]; simp [World.cell?, hv1]; exact hj)
      (by simp [hl1, hvl]; omega) h1v
    rw [show Nat.min 1 (n + 1 - i) = 1 by simp only [Nat.min_def]; split <;> omega, hr2] at h
    exact h
  rw [← hW1] at hcp1
  have hov := fun lb cb => insC_ov vb b ((i + 1) * 6) 1 1 lb cb w hvb cur vs.toArray _ _ hg hv (by omega)
  have hz2 : ¬ ((i : Int) = (n : Int)) := by omega
  have hw1 : IntKind.i64.wrap ((i : Int) + 1) = (i : Int) + 1 := by rw [IntKind.wrap_i64]; omega
  have hw2 : IntKind.i64.wrap ((n : Int) + 1) = (n : Int) + 1 := by rw [IntKind.wrap_i64]; omega
  have hin' : i ≤ n := by omega
  have htn : ((i : Int) + 1).toNat = i + 1 := by omega
  have htn2 : ((n : Int) + 1).toNat = n + 1 := by omega
  have hroom' : ¬ (c : Int) < (n : Int) + 1 := by omega
  have hb1 : (0 : Int) ≤ (i : Int) + 1 := by omega
  have hb2 : ¬ (c = i + 1) := by omega
  have hb4 : ¬ (c = i) := by omega
  have mixed : Tryz.prog.follows .mixedOrders = true := by kernel_rfl
  have hb3 : (i : Int) ≤ (n : Int) + 1 := by omega
  go_enter Tryz.func61, Tryz.ntmps61
  go_wp2_with (simp only [hov])
  go_region_law_o (refine step_copy_runI rfl _ _ 46 46 rfl (.slice (some ⟨b, (i + 1) * 6, none⟩) (n + 1 - (i + 1)) (c - (i + 1))) (.slice (some ⟨b, i * 6, none⟩) (n + 1 - i) (c - i)) (by simp [Act.eval, Act.put]) (by simp [Act.eval, Act.put]) (hcp1 _ _ _) ?_)
  rw [hW1] at hcp2
  go_wp2
  go_ret
  have hg2 : ((w.drew.setRow b arr1.toArray).setRow b arr2.toArray).heap[b]? = some (.cells arr2.toArray 37 (0, 0)) := setRow_heap _ b arr1.toArray arr2.toArray _ _ (hW1 ▸ hg1)
  refine ⟨rfl, arr2.toArray, hg2, by rw [List.size_toArray, hA, Array.length_toList], by rw [List.toList_toArray, show (n + 1) * 6 = n * 6 + 6 by omega]; exact hB, ⟨rfl, rfl, rfl, by simp [setRow_size], fun k _ hk => ?_⟩, fun B hBb => ?_⟩
  · have hkb : k ≠ b := fun e => hk (by rw [e])
    rw [setRow_other _ _ _ _ hkb, setRow_other _ _ _ _ hkb]; rfl
  · exact below_setRow (below_setRow (below_drew (Below.refl _ _)) hBb _) hBb _
abbrev insC_z : Value := .agg #[.string ⟨#[]⟩, .bool false, .int .i64 0, .int .i64 0, .slice none 0 0, .string ⟨#[]⟩]
theorem insC_info3 : (Tryz.prog.info? 37).map (fun i => (i.zero, i.size, i.bytes)) = some (some insC_z, 6, 80) := by kernel_rfl
theorem zeros_len (z : Array Value) (n : Nat) : (Builtin.zeroCells z n).toList.length = n * z.size := by simp [Builtin.zeroCells]
set_option maxHeartbeats 4000000 in
set_option maxRecDepth 100000 in
theorem insC_grow (b n c i vb : Nat) (cur : Array Value) (vs : List Value) (w : World) (hi : i < n) (hnc : n ≤ c) (hroom : c < n + 1) (hbig : n ≤ 1048576) (hvb : vb < w.heap.size)
    (hg : w.heap[b]? = some (.cells cur 37 (0, 0))) (hsz : cur.size = c * 6)
    (hv : w.heap[vb]? = some (.cells vs.toArray 37 (0, 0))) (hvl : vs.length = 6) (h1c : ∀ v ∈ cur.toList.take (n * 6), v.oneCell' = true) (h1v : ∀ v ∈ vs, v.oneCell' = true) :
    Calls Tryz.prog 61 #[.slice (some ⟨b, 0, none⟩) n c, .int .i64 i, .slice (some ⟨vb, 0, none⟩) 1 1] w fun e w' =>
      ∃ G, e = .returned (.slice (some ⟨w.heap.size, 0, none⟩) (n + 1) G) ∧ n + 1 ≤ G ∧ G ≤ maxLen ∧ ∃ arr : Array Value, w'.heap[w.heap.size]? = some (.cells arr 37 (0, 0)) ∧ arr.size = G * 6 ∧ arr.toList.take ((n + 1) * 6) = (cur.toList.take (n * 6)).take (i * 6) ++ vs ++ (cur.toList.take (n * 6)).drop (i * 6) ∧
        w.grownBy w' none ∧ ∀ B, B ≤ w.heap.size → Below B w w' := by
  have hlt : cur.toList.length = c * 6 := by rw [Array.length_toList]; exact hsz
  have hinl : (cur.toList.take (n * 6)).length = n * 6 := by rw [List.length_take]; omega
  have hdl : ((cur.toList.take (n * 6)).drop (i * 6)).length = (n - i) * 6 := by rw [List.length_drop, hinl]; omega
  have htl : ((cur.toList.take (n * 6)).take (i * 6)).length = i * 6 := by rw [List.length_take, hinl]; omega
  have hbw : b < w.heap.size := blk_lt hg
  generalize hin : cur.toList.take (n * 6) = inner at *
  obtain ⟨i0, hi0, hz0⟩ := Option.map_eq_some_iff.1 insC_info3
  simp only [Prod.mk.injEq] at hz0
  obtain ⟨hz0, hzs, hzb⟩ := hz0
  have hkk : ((n : Int) + 1 - (i : Int)) = ((n + 1 - i : Nat) : Int) := by omega
  have hik : i + (n + 1 - i) = n + 1 := by omega
  have hold : (Builtin.firstCells i0.size i (.slice (some ⟨b, 0, none⟩) i c)).run Tryz.prog w.drew = .ok (inner.take (i * 6)).toArray w.drew := by
    rw [hzs]
    exact run_firstCells_some w.drew 6 i ⟨b, 0, none⟩ i c (inner.take (i * 6)) (by rw [htl]) (fun j v hj => by
      rw [Addr.add_lit, Nat.zero_add]
      have hd : w.drew.heap[b]? = some (.cells cur 37 (0, 0)) := hg
      simp only [World.cell?, hd]
      rw [← hin, List.take_take, List.getElem?_take] at hj
      split at hj
      · rwa [Array.getElem?_toList] at hj
      · cases hj)
  have hrz : ∀ ty, (Builtin.append_ #[46, 3] ty #[.slice (some ⟨b, 0, none⟩) i c, .int .i64 ((n : Int) + 1 - (i : Int))]).run Tryz.prog w =
      .ok (.slice (some ⟨w.heap.size, 0, none⟩) (n + 1) (grownCap w (n + 1) c 37)) (w.drew.alloc (.cells ((inner.take (i * 6)).toArray ++ Builtin.zeroCells insC_z.cells (n + 1 - i) ++ Builtin.zeroCells insC_z.cells (grownCap w (n + 1) c 37 - (n + 1))) 37)) := fun ty => by
    have h := Lib.run_append_grow_zeros w 46 3 ty 37 i0 _ .i64 .i64 Tryz.underlying46 Tryz.underlying3 hi0 hz0 (some ⟨b, 0, none⟩) i c (inner.take (i * 6)) hold (n + 1 - i) (by omega) (by omega) (by omega) (by omega) (by rw [hzb]; omega) (by rw [hzb, hik]; exact growslice_fits hroom (by omega))
    rw [hik] at h
    rw [hkk]
    exact h
  obtain ⟨G, hG⟩ : ∃ G, G = grownCap w (n + 1) c 37 := ⟨_, rfl⟩
  rw [← hG] at hrz
  have hGn : n + 1 ≤ G := by rw [hG]; exact grownCap_ge w _ _ _
  have hGm : G ≤ maxLen := by
    have := grownCap_le_maxLen w (n + 1) c 37 (by unfold maxLen; omega)
    rwa [← hG] at this
  have hG63 : G ≤ 9223372036854775807 := by unfold maxLen at hGm; omega
  have hzl : insC_z.cells.size = 6 := rfl
  obtain ⟨zs, hzs'⟩ : ∃ zs, (Builtin.zeroCells insC_z.cells (n + 1 - i) ++ Builtin.zeroCells insC_z.cells (G - (n + 1))).toList = zs := ⟨_, rfl⟩
  have hzsl : zs.length = (G - i) * 6 := by rw [← hzs', Array.toList_append, List.length_append, zeros_len, zeros_len, hzl]; omega
  obtain ⟨ROW, hROW⟩ : ∃ ROW : Array Value, (inner.take (i * 6)).toArray ++ Builtin.zeroCells insC_z.cells (n + 1 - i) ++ Builtin.zeroCells insC_z.cells (G - (n + 1)) = ROW := ⟨_, rfl⟩
  have hRl : ROW.toList = inner.take (i * 6) ++ zs := by rw [← hROW, ← hzs']; simp
  rw [hROW] at hrz
  obtain ⟨hA, hB⟩ := grow_list inner vs zs (i * 6) 6 (by omega) hvl (by rw [hzsl, hinl]; omega)
  rw [← hRl] at hA hB
  generalize hr1 : ROW.toList.take (i * 6) ++ vs ++ ROW.toList.drop (i * 6 + vs.length) = arr1 at hA hB
  generalize hr2 : arr1.take (i * 6 + 6) ++ inner.drop (i * 6) ++ arr1.drop (i * 6 + 6 + (inner.drop (i * 6)).length) = arr2 at hA hB
  have hRsz : ROW.size = G * 6 := by rw [← Array.length_toList, hRl, List.length_append, htl, hzsl]; omega
  have hl1 : arr1.length = G * 6 := by rw [← hr1]; simp only [List.length_append, List.length_take, List.length_drop, hvl, Array.length_toList, hRsz]; omega
  have hcpA : ∀ (W : World), W.heap = (w.alloc (.cells ROW 37)).heap → ∀ ty dc, (Builtin.copy_ #[46, 46] ty #[.slice (some ⟨w.heap.size, i * 6, none⟩) (n + 1 - i) dc, .slice (some ⟨vb, 0, none⟩) 1 1]).run Tryz.prog W = .ok (goInt 1) (W.setRow w.heap.size arr1.toArray) := fun W hW ty dc => by
    have hg1 : W.heap[w.heap.size]? = some (.cells ROW 37 (0, 0)) := by rw [hW]; exact blk_new w _
    have hv1 : W.heap[vb]? = some (.cells vs.toArray 37 (0, 0)) := by rw [hW]; exact blk_alloc hv _
    have h := run_copyK (P := Tryz.prog) W 46 46 ty 37 6 w.heap.size (i * 6) (n + 1 - i) dc ⟨vb, 0, none⟩ 1 1 ROW 37 vs Tryz.underlying46 insC_info hg1 (by rw [hvl]; simp only [Nat.min_def]; split <;> omega)
      (fun j v hj => by rw [Addr.add_lit]; simp [World.cell?, hv1]; exact hj)
      (by rw [hRsz, hvl]; omega) h1v
    rw [show Nat.min 1 (n + 1 - i) = 1 by simp only [Nat.min_def]; split <;> omega, hr1] at h
    exact h
  have hcpB : ∀ (W : World), W.heap = ((w.alloc (.cells ROW 37)).setRow w.heap.size arr1.toArray).heap → ∀ ty dc sc, (Builtin.copy_ #[46, 46] ty #[.slice (some ⟨w.heap.size, (i + 1) * 6, none⟩) (n + 1 - (i + 1)) dc, .slice (some ⟨b, i * 6, none⟩) (n - i) sc]).run Tryz.prog W = .ok (goInt ((n - i : Nat) : Int)) (W.setRow w.heap.size arr2.toArray) := fun W hW ty dc sc => by
    have hg1 : W.heap[w.heap.size]? = some (.cells arr1.toArray 37 (0, 0)) := by rw [hW]; exact setRow_heap (w.alloc (.cells ROW 37)) w.heap.size ROW arr1.toArray _ _ (blk_new w _)
    have hb1 : W.heap[b]? = some (.cells cur 37 (0, 0)) := by rw [hW, setRow_other _ _ _ _ (by omega)]; exact blk_alloc hg _
    have h := run_copyK (P := Tryz.prog) W 46 46 ty 37 6 w.heap.size ((i + 1) * 6) (n + 1 - (i + 1)) dc ⟨b, i * 6, none⟩ (n - i) sc arr1.toArray 37 (inner.drop (i * 6)) Tryz.underlying46 insC_info hg1 (by rw [hdl]; simp only [Nat.min_def]; split <;> omega)
      (fun j v hj => by
        rw [Addr.add_lit]
        simp only [World.cell?, hb1]
        rw [List.getElem?_drop, ← hin, List.getElem?_take] at hj
        split at hj
        · rwa [Array.getElem?_toList] at hj
        · cases hj)
      (by simp [hdl, hl1]; omega) (fun v hv => h1c v (List.mem_of_mem_drop hv))
    rw [show Nat.min (n - i) (n + 1 - (i + 1)) = n - i by simp only [Nat.min_def]; split <;> omega, show (i + 1) * 6 = i * 6 + 6 by omega] at h
    simp only at h
    rw [hr2] at h
    rw [show (i + 1) * 6 = i * 6 + 6 by omega]
    exact h
  have hz2 : ¬ ((i : Int) = (n : Int)) := by omega
  have hw1 : IntKind.i64.wrap ((i : Int) + 1) = (i : Int) + 1 := by rw [IntKind.wrap_i64]; omega
  have hw2 : IntKind.i64.wrap ((n : Int) + 1) = (n : Int) + 1 := by rw [IntKind.wrap_i64]; omega
  have hw3 : IntKind.i64.wrap ((n : Int) + 1 - (i : Int)) = (n : Int) + 1 - (i : Int) := by rw [IntKind.wrap_i64]; omega
  have hin' : i ≤ n := by omega
  have htn : ((i : Int) + 1).toNat = i + 1 := by omega
  have hroom' : (c : Int) < (n : Int) + 1 := by omega
  have hb1 : (0 : Int) ≤ (i : Int) + 1 := by omega
  have hGi : ¬ (G = i) := by omega
  have hGim : ¬ (G = i + 1) := by omega
  have hci : ¬ (c = i) := by omega
  have mixed : Tryz.prog.follows .mixedOrders = true := by kernel_rfl
  have hb3 : (i : Int) ≤ (n : Int) := by omega
  have hc4 : (i : Int) ≤ (c : Int) := by omega
  clear hkk hik hold hG hzsl hzs' hROW hRl
  go_enter Tryz.func61, Tryz.ntmps61
  have hA1 := hcpA ((w.alloc (.cells ROW 37)).drew) rfl
  go_wp2_with (at_builtin; refine Lib.wpList_append_run _ rfl _ _ _ _ rfl _ _ rfl rfl _ _ (hrz _) ?_)
  have hB1 := hcpB (((w.alloc (.cells ROW 37)).drew.setRow w.heap.size arr1.toArray).drew) rfl
  go_region_law_o (refine step_copy_runI rfl _ _ 46 46 rfl (.slice (some ⟨w.heap.size, (i + 1) * 6, none⟩) (n + 1 - (i + 1)) (G - (i + 1))) (.slice (some ⟨b, i * 6, none⟩) (n - i) (c - i)) (by simp [Act.eval, Act.put]) (by simp [Act.eval, Act.put]) (hB1 _ _ _) ?_)
  go_wp2
  go_ret
  have hg1 : ((((w.alloc (.cells ROW 37)).drew.setRow w.heap.size arr1.toArray).drew)).heap[w.heap.size]? = some (.cells arr1.toArray 37 (0, 0)) := setRow_heap (w.alloc (.cells ROW 37)).drew w.heap.size ROW arr1.toArray _ _ (blk_new w _)
  have hg2 := setRow_heap _ w.heap.size arr1.toArray arr2.toArray _ _ hg1
  refine ⟨G, rfl, hGn, hGm, arr2.toArray, hg2, by rw [List.size_toArray, hA, Array.length_toList, hRsz], by rw [List.toList_toArray, show (n + 1) * 6 = n * 6 + 6 by omega]; rw [hinl] at hB; exact hB, ⟨rfl, rfl, rfl, ?_, fun k hk _ => ?_⟩, fun B hBb => ?_⟩
  · rw [setRow_size]
    show w.heap.size ≤ (World.setRow _ _ _).heap.size
    rw [setRow_size]
    show w.heap.size ≤ (w.alloc _).heap.size
    rw [World.size_alloc]; omega
  · have hkb : k ≠ w.heap.size := by omega
    rw [setRow_other _ _ _ _ hkb]
    show (World.setRow _ _ _).heap[k]? = _
    rw [setRow_other _ _ _ _ hkb]
    exact (below_alloc (Below.refl w.heap.size w) (.cells ROW 37)).block k hk
  · exact (below_setRow (below_drew (below_setRow (below_drew (below_alloc (Below.refl w.heap.size w) _)) (Nat.le_refl _) _)) (Nat.le_refl _) _).mono hBb
end Go.Proofs.YthngelbaheankaaGreatDoor.Tpl
namespace Go.Proofs.YthngelbaheankaaGreatDoor.Tpl
open Go.RowKit Go.Proofs Go.Proofs.YthngelbaheankaaGreatDoor.PB Go.Proofs.YthngelbaheankaaGreatDoor.Short Go.Proofs.YthngelbaheankaaGreatDoorW.PrintWords Go.Proofs.YthngelbaheankaaGreatDoorW.PrintLast Go.Proofs.YthngelbaheankaaGreatDoorW.PrintMore
theorem insC_get (inner cs : List Value) (i j q : Nat) (hi : i * 6 ≤ inner.length) (hc : cs.length = 6) (hq : q < 6) :
    (inner.take (i * 6) ++ cs ++ inner.drop (i * 6))[j * 6 + q]? = if j < i then inner[j * 6 + q]? else if j = i then cs[q]? else inner[(j - 1) * 6 + q]? := by
  have hl : (inner.take (i * 6)).length = i * 6 := by rw [List.length_take]; omega
  by_cases h1 : j < i
  · rw [if_pos h1, List.append_assoc, List.getElem?_append_left (by rw [hl]; omega), List.getElem?_take, if_pos (by omega)]
  · rw [if_neg h1]
    by_cases h2 : j = i
    · subst h2
      rw [if_pos rfl, List.append_assoc, List.getElem?_append_right (by rw [hl]; omega), hl, List.getElem?_append_left (by omega)]
      congr 1; omega
    · rw [if_neg h2, List.getElem?_append_right (by rw [List.length_append, hl, hc]; omega), List.length_append, hl, hc, List.getElem?_drop]
      congr 1; omega
theorem insC_read {W w' : World} {b' : Nat} {arr : Array Value} {inner cs : List Value} {xs : List S37} {x : S37} {rows : List (List Value)} {i : Nat} {okr okx : Nat → Prop}
    (hlr : rows.length = xs.length) (hil : inner.length = xs.length * 6) (hi : i ≤ xs.length) (hn : xs.length ≤ 1048576) (hcl : cs.length = 6) (hrow : ∀ (j : Nat) (r : List Value), rows[j]? = some r → r.length = 6 ∧ ∀ q, q < 6 → r[q]? = inner[j * 6 + q]?)
    (hf : ∀ (j : Nat) (y : S37) (c : List Value), xs[j]? = some y → rows[j]? = some c → Kd.FK k37 W okr y c) (hx : Kd.FK k37 W okx x cs)
    (hsame : ∀ k, (okr k ∨ okx k) → k < W.heap.size → w'.heap[k]? = W.heap[k]?)
    (hg : w'.heap[b']? = some (.cells arr 37 (0, 0))) (ht : arr.toList.take ((xs.length + 1) * 6) = inner.take (i * 6) ++ cs ++ inner.drop (i * 6)) :
    Kd.C k37 w' (some ⟨b', 0, none⟩) (xs.length + 1) (xs.take i ++ x :: xs.drop i) := by
  refine ⟨by simp; omega, by omega, fun _ => ⟨_, rfl, fun j p hp => ?_⟩⟩
  have hcell : ∀ q, q < 6 → j < xs.length + 1 → w'.cell? ((⟨b', 0, none⟩ : Addr).add (j * 6 + q)) = (inner.take (i * 6) ++ cs ++ inner.drop (i * 6))[j * 6 + q]? := by
    intro q hq hj
    rw [← ht, List.getElem?_take, if_pos (by omega), Addr.add_lit, Nat.zero_add]
    simp [World.cell?, hg]
  have hjn : j < xs.length + 1 := by have := (List.getElem?_eq_some_iff.1 hp).1; simp at this; omega
  have hold : ∀ j', xs[j']? = some p → (∀ q, q < 6 → w'.cell? ((⟨b', 0, none⟩ : Addr).add (j * 6 + q)) = inner[j' * 6 + q]?) →
      ∃ c, c.length = Kd.sz k37 ∧ Kd.K k37 w' p c ∧ ∀ q u, c[q]? = some u → w'.cell? ((⟨b', 0, none⟩ : Addr).add (j * Kd.sz k37 + q)) = some u := by
    intro j' hj' hc
    have hlt : j' < rows.length := by rw [hlr]; exact (List.getElem?_eq_some_iff.1 hj').1
    have hr := List.getElem?_eq_getElem hlt
    obtain ⟨r1, r2⟩ := hrow j' _ hr
    refine ⟨rows[j'], r1, hf j' p _ hj' hr w' (fun k hk hlt => hsame k (.inl hk) hlt), fun q u hu => ?_⟩
    have hq : q < 6 := by have := (List.getElem?_eq_some_iff.1 hu).1; omega
    show w'.cell? ((⟨b', 0, none⟩ : Addr).add (j * 6 + q)) = some u
    rw [hc q hq, ← r2 q hq]
    exact hu
  by_cases h1 : j < i
  · rw [List.getElem?_append_left (by rw [List.length_take]; omega), List.getElem?_take, if_pos h1] at hp
    exact hold j hp (fun q hq => by rw [hcell q hq hjn, insC_get _ _ _ _ _ (by omega) hcl hq, if_pos h1])
  · have hlt : (xs.take i).length = i := by rw [List.length_take]; omega
    rw [List.getElem?_append_right (by omega), hlt] at hp
    by_cases h2 : j = i
    · subst h2
      rw [Nat.sub_self, List.getElem?_cons_zero] at hp
      obtain rfl := Option.some.inj hp
      refine ⟨cs, hcl, hx w' (fun k hk hlt => hsame k (.inr hk) hlt), fun q u hu => ?_⟩
      have hq : q < 6 := by have := (List.getElem?_eq_some_iff.1 hu).1; omega
      show w'.cell? ((⟨b', 0, none⟩ : Addr).add (j * 6 + q)) = some u
      rw [hcell q hq hjn, insC_get _ _ _ _ _ (by omega) hcl hq, if_neg h1, if_pos rfl]
      exact hu
    · rw [show j - i = (j - 1 - i) + 1 by omega, List.getElem?_cons_succ, List.getElem?_drop, show i + (j - 1 - i) = j - 1 by omega] at hp
      exact hold (j - 1) hp (fun q hq => by rw [hcell q hq hjn, insC_get _ _ _ _ _ (by omega) hcl hq, if_neg h1, if_neg h2])
set_option maxHeartbeats 4000000 in
set_option maxRecDepth 100000 in
theorem insC_any (A : Option Addr) (c i vb : Nat) (xs : List S37) (x : S37) (cs : List Value) (W : World) (base : Nat) (ok okx : Nat → Prop)
    (hN : Kd.N k37 37 W base ok (.slice A xs.length c) xs) (hi : i ≤ xs.length) (hn : xs.length ≤ 1048575)
    (hv : W.heap[vb]? = some (.cells cs.toArray 37 (0, 0))) (hx : Kd.FK k37 W okx x cs) (hvb : some vb ≠ (Value.slice A xs.length c).ownBlock) (hokv : ok vb)
    (hokx : ∀ k, okx k → ok k ∧ some k ≠ (Value.slice A xs.length c).ownBlock) (hfresh : ∀ k, W.heap.size ≤ k → ok k) (hbase : base ≤ W.heap.size) :
    Calls Tryz.prog 61 #[.slice A xs.length c, .int .i64 i, .slice (some ⟨vb, 0, none⟩) 1 1] W fun e w' =>
      ∃ A' c', e = .returned (.slice A' (xs.length + 1) c') ∧ Kd.C k37 w' A' (xs.length + 1) (xs.take i ++ x :: xs.drop i) ∧ xs.length + 1 ≤ c' ∧ Below base W w' := by
  have hcl : cs.length = 6 := (k37).K_len (Kd.FK_now hx)
  have hvw : vb < W.heap.size := blk_lt hv
  rcases Nat.lt_or_eq_of_le hi with hlt | rfl
  · have hN' := hN
    obtain ⟨h0, rows, hlr, hR, hf⟩ := hN
    obtain ⟨_, inner, ⟨hil, ho⟩, hr⟩ := hR
    rw [hlr] at hil ho
    have hrow : ∀ j r, rows[j]? = some r → r.length = 6 ∧ ∀ q, q < 6 → r[q]? = inner[j * 6 + q]? := by
      intro j r hj
      obtain ⟨e1, e2, _⟩ := hr.2 j r hj
      have e1' : (inner.drop (j * 6)).take 6 = r := e1
      have e2' : ((inner.drop (j * 6)).take 6).length = 6 := e2
      rw [e1'] at e2'
      refine ⟨e2', fun q hq => ?_⟩
      rw [← e1', List.getElem?_take, if_pos hq, List.getElem?_drop]
    have hone : ∀ v ∈ inner, v.oneCell' = true := by
      intro v hv
      obtain ⟨p, hp, rfl⟩ := List.getElem_of_mem hv
      have hpl : p / 6 < rows.length := by rw [hlr]; have : inner.length = xs.length * 6 := hil; omega
      obtain ⟨_, _, e3⟩ := hr.2 (p / 6) _ (List.getElem?_eq_getElem hpl)
      refine e3 _ (List.mem_iff_getElem?.2 ⟨p % 6, ?_⟩)
      show ((inner.drop (p / 6 * 6)).take 6)[p % 6]? = _
      rw [List.getElem?_take, if_pos (Nat.mod_lt _ (by decide)), List.getElem?_drop, show p / 6 * 6 + p % 6 = p by omega, List.getElem?_eq_getElem hp]
    rcases ho with ⟨_, h00⟩ | ⟨g, cap, cur, hs, hbg, hg, hnc, hcm, hsz, htk⟩
    · omega
    · injection hs with e1 e2 e3
      subst e1 e3
      replace htk : cur.toList.take (xs.length * 6) = inner := htk
      replace hsz : cur.size = c * 6 := hsz
      have hown : ∀ m, (Value.slice (some ⟨g, 0, none⟩) m c).ownBlock = some g := fun m => rfl
      rw [hown] at hvb hokx hf
      have hvbg : vb ≠ g := fun e => hvb (by rw [e])
      have h1c : ∀ v ∈ cur.toList.take (xs.length * 6), v.oneCell' = true := by rw [htk]; exact hone
      have h1v : ∀ v ∈ cs, v.oneCell' = true := (k37).K_one (Kd.FK_now hx)
      have hil' : inner.length = xs.length * 6 := hil
      by_cases hroom : xs.length + 1 ≤ c
      · refine (insC_shift g xs.length c i vb cur cs W hlt hroom (by unfold maxLen at hcm; omega) hvbg hg hsz hv hcl h1c h1v).mono ?_
        rintro e w' ⟨rfl, arr, ha, hasz, hat, hgr, hbel⟩
        rw [htk] at hat
        refine ⟨_, _, rfl, insC_read (rows := rows) (okr := fun k => ok k ∧ some k ≠ some g) (okx := okx) hlr hil' hi (by omega) hcl hrow (fun j y c hy hc => hf j y c hy hc) hx (fun k hk hlt => hgr.block k hlt ?_) ha hat, hroom, hbel base hbg⟩
        rcases hk with hk | hk
        · exact hk.2
        · exact (hokx k hk).2
      · refine (insC_grow g xs.length c i vb cur cs W hlt hnc (by omega) (by omega) hvw hg hsz hv hcl h1c h1v).mono ?_
        rintro e w' ⟨G, rfl, hG, _, arr, ha, hasz, hat, hgr, hbel⟩
        rw [htk] at hat
        exact ⟨_, _, rfl, insC_read (rows := rows) (okr := fun k => ok k ∧ some k ≠ some g) (okx := okx) hlr hil' hi (by omega) hcl hrow (fun j y c hy hc => hf j y c hy hc) hx (fun k hk hlt => hgr.block k hlt (by simp)) ha hat, hG, hbel base hbase⟩
  · have hF : Kd.F k37 W (fun k => okx k ∨ k = vb) (some ⟨vb, 0, none⟩) 1 [x] := by
      intro W' hW
      refine ⟨rfl, by decide, fun _ => ⟨_, rfl, fun j p hp => ?_⟩⟩
      cases j with
      | succ j => simp at hp
      | zero =>
        obtain rfl := Option.some.inj hp
        refine ⟨cs, hcl, hx W' (fun k hk hl => hW k (.inl hk) hl), fun q u hu => ?_⟩
        have hb := hW vb (.inr rfl) hvw
        rw [Addr.add_lit]
        simp only [World.cell?, hb, hv, Nat.zero_add, Nat.zero_mul]
        simpa using hu
    have HN := Aside0.mk hN
    have HF := Aside0.mk hF
    have HO : Aside0 (∀ k, (okx k ∨ k = vb) → ok k ∧ some k ≠ (Value.slice A xs.length c).ownBlock) := ⟨fun k hk => by rcases hk with hk | rfl; exact hokx k hk; exact ⟨hokv, hvb⟩⟩
    have HFr := Aside0.mk hfresh
    have HL : Aside0 ((xs.length + 1) * 80 ≤ 140737488355328) := ⟨by omega⟩
    have HBs := Aside0.mk hbase
    have h00 : xs.take xs.length ++ x :: xs.drop xs.length = xs ++ [x] := by rw [List.take_length, List.drop_length]
    rw [h00]
    clear hN hF hokx hfresh hvb hv hx hbase
    go_enter Tryz.func61, Tryz.ntmps61
    go_wp2_with (at_builtin; refine Kd.N_append_rows k37 (w0 := W) base rfl _ _ 46 37 _ 80 rfl Tryz.underlying46 insC_info3 rfl (by decide) (by decide) (.slice A xs.length c) xs [x] (some ⟨vb, 0, none⟩) 1 1 ok (fun k => okx k ∨ k = vb) rfl rfl HN.out HF.out HO.out HFr.out (Below.refl _ _) HBs.out HL.out ?_; intro v1 w1 hN1 hB1 _ _)
    all_goals
      obtain ⟨A', c', rfl, hcc, hC⟩ := Kd.N_reads hN1
      go_ret
      refine ⟨A', c', by simp, by simpa using hC, by simpa using hcc, hB1⟩
end Go.Proofs.YthngelbaheankaaGreatDoor.Tpl
namespace Go.Proofs.YthngelbaheankaaGreatDoor.Tpl
open Go.RowKit Go.Proofs Go.Proofs.YthngelbaheankaaGreatDoor.PB Go.Proofs.YthngelbaheankaaGreatDoor.Short Go.Proofs.YthngelbaheankaaGreatDoorW.PrintWords Go.Proofs.YthngelbaheankaaGreatDoorW.PrintLast Go.Proofs.YthngelbaheankaaGreatDoorW.PrintMore
abbrev insL_z : Value := .agg #[.int .u8 0, .int .i64 0, .int .i64 0, .int .i64 0]
theorem insL_info3 : (Tryz.prog.info? 41).map (fun i => (i.zero, i.size, i.bytes)) = some (some insL_z, 4, 32) := by kernel_rfl
theorem lev_M {w w1 : World} {base base' : Nat} {ok ok' : Nat → Prop} {x : SLv} {cs : List Value} (h : kLv.M w base ok x cs) : kLv.M w1 base' ok' x cs := by
  rw [k41_openM h]; exact k41_mkM _ _ _ _
theorem lev_KM {w w1 : World} {base : Nat} {ok : Nat → Prop} {x : SLv} {cs : List Value} (h : kLv.K w x cs) : kLv.M w1 base ok x cs := by
  rw [k41_open h]; exact k41_mkM _ _ _ _
theorem heapL : Kd.Heap kLv := Kd.heap_iso _ (Kd.heap_pair (Kd.heap_int _) (Kd.heap_pair (Kd.heap_int _) (Kd.heap_pair (Kd.heap_int _) (Kd.heap_int _))))
theorem heapCt : Kd.Heap kCt := Kd.heap_iso _ (Kd.heap_pair Kd.heap_string (Kd.heap_pair Kd.heap_bool (Kd.heap_pair (Kd.heap_int _) (Kd.heap_pair (Kd.heap_int _) (Kd.heap_pair (Kd.heap_slice _ heapL) Kd.heap_string)))))
theorem nl_empty (w : World) : kLv.R 41 (w.alloc (.cells #[] 41)) w.heap.size (fun _ => True) (.slice (some ⟨w.heap.size, 0, none⟩) 0 0) [] := by
  refine ⟨fun k hk => trivial, [], ?_, Reps.none _ _⟩
  exact World.ownsRow_made w #[] 0 (Nat.le_refl _) (Nat.zero_le _) rfl
theorem nc_empty (w : World) : Kd.N kCt 37 (w.alloc (.cells #[] 37)) w.heap.size (fun _ => True) (.slice (some ⟨w.heap.size, 0, none⟩) 0 0) [] := by
  refine Kd.R_N ⟨fun k hk => trivial, [], ?_, Reps.none _ _⟩
  exact World.ownsRow_made w #[] 0 (Nat.le_refl _) (Nat.zero_le _) rfl
def FdL (w : World) (ok : Nat → Prop) (A : Option Addr) (c : Nat) (l : List Lev) : Prop := Kd.F kLv w ok A l.length (l.map Lev.of) ∧ l.length ≤ c
theorem FdL.rd {w : World} {ok : Nat → Prop} {A : Option Addr} {c : Nat} {l : List Lev} (h : FdL w ok A c l) : RdL w A c l := ⟨Kd.F_now h.1, h.2⟩
theorem FdL.below {w0 w : World} {ok : Nat → Prop} {A : Option Addr} {c : Nat} {l : List Lev} (h : FdL w0 ok A c l) (hb : Below w0.heap.size w0 w) : FdL w ok A c l := ⟨Kd.F_below h.1 hb, h.2⟩
set_option maxHeartbeats 1000000 in
set_option maxRecDepth 100000 in
theorem cloneL_any (A : Option Addr) (c : Nat) (l : List Lev) (w : World) (hR : RdL w A c l) (hn : l.length ≤ 1048576) :
    Calls Tryz.prog 101 #[.slice A l.length c] w fun e w' => (∃ Av cv, e = .returned (.slice Av l.length cv) ∧ FdL w' (fun k => w.heap.size ≤ k) Av cv l) ∧ Below w.heap.size w w' := by
  have q24 : ∀ (w : World) (a : Option Addr) (n c n' c' : Nat), (binOp .eql 35 (.slice a n c) (.slice none n' c')).run Tryz.prog w = .ok (.bool a.isNone) w := fun w a n c n' c' => Lib.run_eql_slice_nil w _ _ a n c n' c' Tryz.underlying35
  cases A with
  | none =>
    have h1 : l = [] := by
      cases l with
      | nil => rfl
      | cons x r => obtain ⟨ad, e, _⟩ := hR.1.2.2 (by simp); cases e
    subst h1
    clear hR
    go_enter Tryz.func101, Tryz.ntmps101
    go_wp2
    go_ret
    exact ⟨⟨none, 0, rfl, Kd.N_F (n := 0) (cc := 0) (Kd.N_nil kLv 41 w w.heap.size _), Nat.le_refl _⟩, Below.refl _ _⟩
  | some ad =>
    have HR := Aside0.mk hR
    have HE := Aside0.mk (nl_empty w)
    have HL : Aside0 ((([] : List SLv).length + l.length) * 32 ≤ 140737488355328) := ⟨by simp; omega⟩
    have HS : Aside0 (w.heap.size ≤ (w.alloc (.cells #[] 41)).heap.size) := ⟨by rw [World.size_alloc]; omega⟩
    clear hR
    go_enter Tryz.func101, Tryz.ntmps101
    go_wp2_with (at_builtin; refine Kd.R_append_rows kLv (w0 := w) w.heap.size rfl _ _ 35 41 _ 32 rfl Tryz.underlying35 insL_info3 rfl (by decide) (by decide) (.slice (some ⟨w.heap.size, 0, none⟩) 0 0) [] (l.map Lev.of) (some ad) l.length c (fun _ => True) (fun _ => False) rfl rfl HE.out (Kd.C_below HR.out.1 (below_alloc (Below.refl _ _) _)) (fun _ _ h => lev_KM h) (fun _ h => h.elim) (fun _ _ => trivial) (below_alloc (Below.refl _ _) _) HS.out HL.out ?_; intro v1 w1 hR1 hB1 _ _)
    rw [List.nil_append] at hR1
    have hR2 := Kd.R_flat (ok' := fun k => w.heap.size ≤ k) (fun h => lev_M h) hR1 (fun k hk _ => Kd.R_base hR1 k hk)
    obtain ⟨Av, cv, rfl⟩ := Kd.R_slice hR2
    rw [List.length_map] at hR2 ⊢
    have hF := Kd.N_F (Kd.R_N hR2)
    go_ret
    exact ⟨⟨Av, cv, by simp, hF, by have := (Kd.R_reads' hR2).2.1; omega⟩, hB1⟩
end Go.Proofs.YthngelbaheankaaGreatDoor.Tpl
namespace Go.Proofs.YthngelbaheankaaGreatDoor.Tpl
open Go.RowKit Go.Proofs Go.Proofs.YthngelbaheankaaGreatDoor.PB Go.Proofs.YthngelbaheankaaGreatDoor.Short Go.Proofs.YthngelbaheankaaGreatDoorW.PrintWords Go.Proofs.YthngelbaheankaaGreatDoorW.PrintLast Go.Proofs.YthngelbaheankaaGreatDoorW.PrintMore
abbrev NCt (w : World) (base : Nat) (v : Value) (l : List Cat) : Prop := Kd.N kCt 37 w base (fun _ => True) v (l.map Cat.of)
set_option maxHeartbeats 1000000 in
set_option maxRecDepth 100000 in
theorem cloneC_any (A : Option Addr) (c : Nat) (l : List Cat) (w : World) (hR : RdC w A c l) (hn : l.length ≤ 1048576) :
    Calls Tryz.prog 102 #[.slice A l.length c] w fun e w' => (∃ Av cv, e = .returned (.slice Av l.length cv) ∧ NCt w' w.heap.size (.slice Av l.length cv) l) ∧ Below w.heap.size w w' := by
  have q24 : ∀ (w : World) (a : Option Addr) (n c n' c' : Nat), (binOp .eql 46 (.slice a n c) (.slice none n' c')).run Tryz.prog w = .ok (.bool a.isNone) w := fun w a n c n' c' => Lib.run_eql_slice_nil w _ _ a n c n' c' Tryz.underlying46
  cases A with
  | none =>
    have h1 : l = [] := by
      cases l with
      | nil => rfl
      | cons x r => obtain ⟨ad, e, _⟩ := hR.1.2.2 (by simp); cases e
    subst h1
    clear hR
    go_enter Tryz.func102, Tryz.ntmps102
    go_wp2
    go_ret
    exact ⟨⟨none, 0, rfl, Kd.N_nil _ _ _ _ _⟩, Below.refl _ _⟩
  | some ad =>
    have HF := Aside0.mk (Kd.C_F heapCt hR.1)
    have HE := Aside0.mk (nc_empty w)
    have HL : Aside0 ((([] : List SCt).length + l.length) * 80 ≤ 140737488355328) := ⟨by simp; omega⟩
    have HS : Aside0 (w.heap.size ≤ (w.alloc (.cells #[] 37)).heap.size) := ⟨by rw [World.size_alloc]; omega⟩
    have HK : Aside0 (∀ k, k < w.heap.size → True ∧ some k ≠ (Value.slice (some ⟨w.heap.size, 0, none⟩) 0 0).ownBlock) := ⟨fun k hk => ⟨trivial, fun e => by simp [Value.ownBlock] at e; omega⟩⟩
    clear hR
    go_enter Tryz.func102, Tryz.ntmps102
    go_wp2_with (at_builtin; refine Kd.N_append_rows kCt (w0 := w) w.heap.size rfl _ _ 46 37 _ 80 rfl Tryz.underlying46 insC_info3 rfl (by decide) (by decide) (.slice (some ⟨w.heap.size, 0, none⟩) 0 0) [] (l.map Cat.of) (some ad) l.length c (fun _ => True) (fun k => k < w.heap.size) rfl rfl HE.out (Kd.F_below HF.out (below_alloc (Below.refl _ _) _)) HK.out (fun _ _ => trivial) (below_alloc (Below.refl _ _) _) HS.out HL.out ?_; intro v1 w1 hN hB _ _)
    obtain ⟨Av, cv, rfl⟩ := Kd.N_slice hN
    rw [List.nil_append, List.length_map] at *
    go_ret
    exact ⟨⟨Av, cv, rfl, hN⟩, hB⟩
abbrev catZ : Obj := .cells #[.string ⟨#[]⟩, .bool false, .int .i64 0, .int .i64 0, .slice none 0 0, .string ⟨#[]⟩] 37
set_option maxHeartbeats 2000000 in
set_option maxRecDepth 100000 in
/-- chain.Own: the same, its levels in memory of the call's own -/
theorem ownC_any (x : Cat) (A : Option Addr) (c : Nat) (w : World) (hs : x.sm) (hR : RdL w A c x.ch) :
    Calls Tryz.prog 59 #[catV x A c] w fun e w' => (∃ A' c', e = .returned (catV x A' c') ∧ FdL w' (fun k => w.heap.size ≤ k) A' c' x.ch) ∧ Below w.heap.size w w' := by
  have hb1 := below_alloc (below_alloc (Below.refl w.heap.size w) (catO x A c)) catZ
  have BK := blk_alloc (blk_new w (catO x A c)) catZ
  have BL := blk_new (w.alloc (catO x A c)) catZ
  rw [World.size_alloc] at BL
  have HR := Aside0.mk (hR.below hb1)
  have HB := Aside0.mk hb1
  have hsz : ((w.alloc (catO x A c)).alloc catZ).heap.size = w.heap.size + 2 := by rw [World.size_alloc, World.size_alloc]
  clear hR hb1
  go_enter Tryz.func59, Tryz.ntmps59
  go_upto_region 1 with (fail)
  generalize (w.alloc (catO x A c)).alloc catZ = W at BK BL HB HR hsz ⊢
  obtain ⟨b1, hb1⟩ : ∃ b, w.heap.size = b := ⟨_, rfl⟩
  have Hb1 : Aside0 (w.heap.size = b1) := ⟨hb1⟩
  rw [hb1] at BK BL hsz ⊢
  clear hb1
  obtain ⟨y0, y1, y2, y3, y4, y5, f0, f1, f2, f3, f4, f5⟩ := cells_6 BK
  have hcl := cloneL_any A c x.ch W HR.out hs.2.1
  go_wp2_with fail
  refine hcl.mono ?_
  rintro e W1 ⟨⟨Av, cv, rfl, hF⟩, hb⟩
  have BK1 := blk_below BK hb
  have BL1 := Aside0.mk (blk_below BL hb)
  have HB1 := Aside0.mk (below_step HB.out hb)
  have HF := Aside0.mk hF
  obtain ⟨y0, y1, y2, y3, y4, y5, f0, f1, f2, f3, f4, f5⟩ := cells_6 BK1
  obtain ⟨u0, u1, u2, u3, u4, u5, v0, v1, v2, v3, v4, v5⟩ := cells_6 BL1.out
  clear hcl hb BK BL HB HR hF
  have hnb : b1 + 1 ≠ b1 := by omega
  have BL2 : (W1.setCell ⟨b1, 4, none⟩ (.slice Av x.ch.length cv)).heap[b1 + 1]? = some catZ := by rw [Below.heap_setCell _ _ _ _ hnb]; exact BL1.out
  have q0 : (W1.setCell ⟨b1, 4, none⟩ (.slice Av x.ch.length cv)).heap[b1]? = some (catO x Av cv) := blk_put BK1 4 _ rfl
  have HL2 := Aside0.mk BL2
  have Hsz := Aside0.mk hsz
  clear hsz
  go_wp2
  refine bodyPost_ret (results_cell_row rfl _ _ (b1 + 1) 37 #[.string (bs x.n), .bool x.cr, .int .i64 x.w, .int .i64 x.b, .slice Av x.ch.length cv, .string (bs x.s)] (0, 0) _ rfl (put6_blk HL2.out) Tryz.underlying37 rfl (by kernel_rfl)) rfl ?_
  have e1 := Hb1.out
  have e2 := Hsz.out
  refine ⟨⟨Av, cv, rfl, ⟨Kd.F_mono (Kd.F_step HF.out.1 (fun q hq _ => ?_)) (fun q hq => by omega), HF.out.2⟩⟩, put6_below (below_set HB1.out (by omega)) (by omega)⟩
  rw [put6_far (by omega), Below.heap_setCell _ _ _ _ (by show q ≠ b1; omega)]
end Go.Proofs.YthngelbaheankaaGreatDoor.Tpl
namespace Go.Proofs.YthngelbaheankaaGreatDoor.Tpl
open Go.RowKit Go.Proofs Go.Proofs.YthngelbaheankaaGreatDoor.PB Go.Proofs.YthngelbaheankaaGreatDoor.Short Go.Proofs.YthngelbaheankaaGreatDoorW.PrintWords Go.Proofs.YthngelbaheankaaGreatDoorW.PrintLast Go.Proofs.YthngelbaheankaaGreatDoorW.PrintMore
theorem catRd {l : List Cat} {j : Nat} {x : Cat} (hx : l[j]? = some x) : (l.map Cat.of).getD (j : Int).toNat z37 = x.of := by
  rw [Int.toNat_natCast, List.getD_eq_getElem?_getD, List.getElem?_map, hx]; rfl
theorem NCt_at {W : World} {base cap : Nat} {A : Option Addr} {l : List Cat} {j : Nat} {x : Cat} (h : NCt W base (.slice A l.length cap) l) (hx : l[j]? = some x) :
    ∃ g A4 c4, A = some ⟨g, 0, none⟩ ∧ base ≤ g ∧ g < W.heap.size ∧ W.cell? ⟨g, j * 6, none⟩ = some (.string (bs x.n)) ∧ W.cell? ⟨g, j * 6 + 1, none⟩ = some (.bool x.cr) ∧ W.cell? ⟨g, j * 6 + 2, none⟩ = some (.int .i64 x.w) ∧ W.cell? ⟨g, j * 6 + 3, none⟩ = some (.int .i64 x.b) ∧
      W.cell? ⟨g, j * 6 + 4, none⟩ = some (.slice A4 x.ch.length c4) ∧ W.cell? ⟨g, j * 6 + 5, none⟩ = some (.string (bs x.s)) ∧ W.frozen? ⟨g, j * 6, none⟩ = false ∧ W.frozen? ⟨g, j * 6 + 1, none⟩ = false ∧ W.frozen? ⟨g, j * 6 + 2, none⟩ = false ∧ W.frozen? ⟨g, j * 6 + 3, none⟩ = false ∧ W.frozen? ⟨g, j * 6 + 4, none⟩ = false ∧ W.frozen? ⟨g, j * 6 + 5, none⟩ = false ∧
      FdL W (fun q => q ≠ g) A4 c4 x.ch := by
  have hl : j < l.length := (List.getElem?_eq_some_iff.1 hx).1
  obtain ⟨g, cap', e, hg1, hg2, hgc⟩ := Kd.N_form h (by rw [List.length_map]; omega)
  rw [List.length_map] at e
  injection e with e1 e2 e3
  subst e1
  obtain ⟨c, hc1, hc2, hc3, hc4⟩ := Kd.N_elem h z37 (j : Int) (by omega) (by omega)
  rw [catRd hx] at hc2
  obtain ⟨A4, c4, rfl, l4, F4⟩ := k37_openF hc2
  simp only [Cat.of, List.length_map] at l4 F4 hc3
  have hs : Kd.sz kCt = 6 := rfl
  refine ⟨g, A4, c4, rfl, hg1, hg2, ?_⟩
  simp only [Int.toNat_natCast, hs] at hc3 hc4
  exact ⟨hc3 0 _ rfl, hc3 1 _ rfl, hc3 2 _ rfl, hc3 3 _ rfl, hc3 4 _ rfl, hc3 5 _ rfl, hc4 0, hc4 1, hc4 2, hc4 3, hc4 4, hc4 5, Kd.F_mono F4 (fun k hk => hk.2), l4⟩
theorem NCt_set {W : World} {base cap g : Nat} {l : List Cat} {j : Nat} (h : NCt W base (.slice (some ⟨g, 0, none⟩) l.length cap) l) (hl : j < l.length) (y : Cat) {A4 : Option Addr} {c4 : Nat} (hF : FdL W (fun q => q ≠ g) A4 c4 y.ch) :
    NCt (put6 W g (j * 6) (.string (bs y.n)) (.bool y.cr) (.int .i64 y.w) (.int .i64 y.b) (.slice A4 y.ch.length c4) (.string (bs y.s))) base (.slice (some ⟨g, 0, none⟩) l.length cap) (l.set j y) := by
  obtain ⟨c, hc1, hc2, hc3, hc4⟩ := Kd.N_elem h z37 (j : Int) (by omega) (by omega)
  have hc1' : c.length = 6 := hc1
  have hset := Kd.N_seg (x' := y.of) (okp := fun q => q ≠ g) (j := 0) (seg := [.string (bs y.n), .bool y.cr, .int .i64 y.w, .int .i64 y.b, .slice A4 y.ch.length c4, .string (bs y.s)]) h (j : Int) (by omega) (by omega) hc1 hc3 (Nat.le_refl 6) (by
    rw [List.drop_eq_nil_of_le (by rw [hc1']; exact Nat.le_refl 6), List.take_zero, List.nil_append, List.append_nil]
    have := k37_mkF W (fun q => q ≠ g) y.of (A4 := A4) (c4 := c4) (by simpa [Cat.of] using hF.2) (by simpa [Cat.of] using hF.1)
    simpa [Cat.of] using this) (fun k hk => ⟨trivial, hk⟩)
  have h1 := hset.1
  rw [Int.toNat_natCast] at h1
  have e : (l.map Cat.of).set j y.of = (l.set j y).map Cat.of := (List.map_set ..).symm
  rw [e] at h1
  exact h1
set_option maxHeartbeats 4000000 in
set_option maxRecDepth 100000 in
theorem owns_any (l : List Cat) (A : Option Addr) (c : Nat) (w : World) (hs : smC l) (hR : RdC w A c l) :
    Calls Tryz.prog 60 #[.slice A l.length c] w fun e w' => (∃ Av cv, e = .returned (.slice Av l.length cv) ∧ NCt w' w.heap.size (.slice Av l.length cv) l) ∧ Below w.heap.size w w' := by
  have hcl := cloneC_any A c l w hR hs.1
  have HS := Aside0.mk hs
  have hl0 := hs.1
  clear hR hs
  go_enter Tryz.func60, Tryz.ntmps60
  go_wp2_with fail
  refine hcl.mono ?_
  rintro e W1 ⟨⟨Av, cv, rfl, hN⟩, hb⟩
  have HN := Aside0.mk hN
  have HB := Aside0.mk hb
  clear hcl hb hN
  go_wp2
  go_loopw [9] (fun v wr => ∃ j : Nat, v = .int .i64 j ∧ j ≤ l.length ∧ Aside0 (NCt wr w.heap.size (.slice Av l.length cv) l) ∧ Aside0 (Below w.heap.size w wr)) (fun v _ => l.length - (intOf v).toNat)
  case atStart => exact ⟨0, rfl, Nat.zero_le _, HN, HB⟩
  case round =>
    clear HN HB
    obtain ⟨j, rfl, hj, HN, HW⟩ := hrel
    by_cases hlt : j < l.length
    · have hx : l[j]? = some l[j] := List.getElem?_eq_getElem hlt
      obtain ⟨g, A4, c4, rfl, hg1, hg2, z0, z1, z2, z3, z4, z5, f0, f1, f2, f3, f4, f5, hF⟩ := NCt_at HN.out hx
      have hself : l.set j l[j] = l := List.set_getElem_self hlt
      have hsx := HS.out.2 _ (List.mem_of_getElem? hx)
      generalize l[j] = x at z0 z1 z2 z3 z4 z5 hF hself hsx
      have hbl := below_alloc (Below.refl wr.heap.size wr) (catO x A4 c4)
      have BX := blk_new wr (catO x A4 c4)
      have HWl := Aside0.mk (below_step HW.out hbl)
      have HN2 := Aside0.mk (Kd.N_below HN.out hbl)
      have HF2 := Aside0.mk (hF.below hbl)
      have hgl : g < (wr.alloc (catO x A4 c4)).heap.size := by rw [World.size_alloc]; omega
      have HSf := Aside0.mk hself
      clear hx hself hF hbl HN HW
      go_upto_region 5 with (fail)
      clear z0 z1 z2 z3 z4 z5 f0 f1 f2 f3 f4 f5
      generalize wr.alloc (catO x A4 c4) = W at BX HWl HN2 HF2 hgl ⊢
      generalize wr.heap.size = gx at BX ⊢
      obtain ⟨y0, y1, y2, y3, y4, y5, -⟩ := cells_6 BX
      have how := ownC_any x A4 c4 W hsx HF2.out.rd
      have Hgl := Aside0.mk hgl
      have Hg1 := Aside0.mk hg1
      clear hgl hg1 hg2 BX
      go_wp2_with fail
      refine how.mono ?_
      rintro e W3 ⟨⟨A5, c5, rfl, hF5⟩, hb⟩
      have hN3 := Kd.N_below HN2.out hb
      obtain ⟨x', hx'⟩ : ∃ x', l[j]? = some x' := ⟨_, List.getElem?_eq_getElem hlt⟩
      obtain ⟨g', A6, c6, hg', -, -, z0, z1, z2, z3, z4, z5, f0, f1, f2, f3, f4, f5, -⟩ := NCt_at hN3 hx'
      obtain rfl : g = g' := by simpa using hg'
      have hF6 : FdL W3 (fun q => q ≠ g) A5 c5 x.ch := ⟨Kd.F_mono hF5.1 (fun q hq e => by subst e; have := Hgl.out; omega), hF5.2⟩
      have hN4 := NCt_set hN3 hlt x hF6
      rw [HSf.out] at hN4
      have HN4 := Aside0.mk hN4
      have HW4 := Aside0.mk (put6_below (g := g) (o := j * 6) (a0 := .string (bs x.n)) (a1 := .bool x.cr) (a2 := .int .i64 x.w) (a3 := .int .i64 x.b) (a4 := .slice A5 x.ch.length c5) (a5 := .string (bs x.s)) (below_step HWl.out hb) Hg1.out)
      clear how hb hN3 hx' hg' hF5 hF6 hN4 HN2 HF2 y0 y1 y2 y3 y4 y5
      go_wp2
      go_round
      case rel => exact ⟨j + 1, by go_num, by omega, HN4, HW4⟩
      case measure => simp [intOf]; omega
    · obtain rfl : j = l.length := by omega
      go_wp2
      go_ret
      exact ⟨⟨Av, cv, rfl, HN.out⟩, HW.out⟩
end Go.Proofs.YthngelbaheankaaGreatDoor.Tpl
namespace Go.Proofs.YthngelbaheankaaGreatDoor.Tpl
open Go.RowKit Go.Proofs Go.Proofs.YthngelbaheankaaGreatDoor.PB Go.Proofs.YthngelbaheankaaGreatDoor.Short Go.Proofs.YthngelbaheankaaGreatDoorW.PrintWords Go.Proofs.YthngelbaheankaaGreatDoorW.PrintLast Go.Proofs.YthngelbaheankaaGreatDoorW.PrintMore
theorem isnan_any (s : ByteArray) (w : World) : Calls Tryz.prog 151 #[.string s] w fun e w' => e = .returned (.bool false) ∧ w = w' := by
  go_enter Tryz.func151, Tryz.ntmps151
  go_wp2
  go_ret
  exact ⟨by simp, rfl⟩
def cmpS (a b : S) : Int := if a < b then -1 else if b < a then 1 else 0
theorem compare_any (a b : S) (w : World) : Calls Tryz.prog 100 #[.string (bs a), .string (bs b)] w fun e w' => e = .returned (.int .i64 (cmpS a b)) ∧ w = w' := by
  have l1 : ∀ q : Bool, decide (a < b) = q → Op.bytesLess (bs a).toList (bs b).toList = q := fun q h => by rw [bytesLess_eq, bs_list, bs_list]; exact h
  have l2 : ∀ q : Bool, decide (b < a) = q → Op.bytesLess (bs b).toList (bs a).toList = q := fun q h => by rw [bytesLess_eq, bs_list, bs_list]; exact h
  obtain ⟨r, hr⟩ : ∃ z, cmpS a b = z := ⟨_, rfl⟩
  rw [hr]
  unfold cmpS at hr
  by_cases h1 : a < b
  · have e1 := l1 true (decide_eq_true h1)
    rw [if_pos h1] at hr
    subst hr
    clear l1 l2 h1
    go_enter Tryz.func100, Tryz.ntmps100
    go_wp2_with (go_at_call 151; (with_reducible refine (isnan_any _ _).mono ?_); rintro e w' ⟨rfl, rfl⟩)
    go_ret
    exact ⟨rfl, rfl⟩
  · have e1 := l1 false (decide_eq_false h1)
    rw [if_neg h1] at hr
    by_cases h2 : b < a
    · have e2 := l2 true (decide_eq_true h2)
      have e3 : ((bs a).toList == (bs b).toList) = false := by rw [bs_list, bs_list, beq_eq_false_iff_ne]; exact fun e => h1 (by rw [e] at h2 ⊢; exact h2)
      rw [if_pos h2] at hr
      subst hr
      clear l1 l2 h1 h2
      go_enter Tryz.func100, Tryz.ntmps100
      go_wp2_with (go_at_call 151; (with_reducible refine (isnan_any _ _).mono ?_); rintro e w' ⟨rfl, rfl⟩)
      go_ret
      exact ⟨rfl, rfl⟩
    · have e2 := l2 false (decide_eq_false h2)
      have e3 : ((bs a).toList == (bs b).toList) = true := by rw [bs_list, bs_list, beq_iff_eq]; exact Decidable.byContradiction fun e => h2 (S_tri h1 e)
      rw [if_neg h2] at hr
      subst hr
      clear l1 l2 h1 h2
      go_enter Tryz.func100, Tryz.ntmps100
      go_wp2_with (go_at_call 151; (with_reducible refine (isnan_any _ _).mono ?_); rintro e w' ⟨rfl, rfl⟩)
      go_ret
      exact ⟨rfl, rfl⟩
theorem at1_any (x : Cat) (A : Option Addr) (c : Nat) (s : S) (w : World) : Calls Tryz.prog 99 #[catV x A c, .string (bs s)] w fun e w' => e = .returned (.int .i64 (cmpS x.n s)) ∧ Below w.heap.size w w' := by
  have hb1 := below_alloc (Below.refl w.heap.size w) (catO x A c)
  have BK := blk_new w (catO x A c)
  have HB := Aside0.mk hb1
  clear hb1
  go_enter Tryz.func99, Tryz.ntmps99
  go_upto_region 1 with (fail)
  generalize w.alloc (catO x A c) = W at BK HB ⊢
  generalize w.heap.size = b1 at BK ⊢
  obtain ⟨y0, y1, y2, y3, y4, y5, -⟩ := cells_6 BK
  go_wp2_with fail
  refine (compare_any x.n s W).mono ?_
  rintro e W1 ⟨rfl, rfl⟩
  go_wp2
  go_ret
  exact ⟨rfl, HB.out⟩
set_option maxHeartbeats 2000000 in
set_option maxRecDepth 100000 in
theorem bsf_any (l : List Cat) (A : Option Addr) (c : Nat) (s : S) (w : World) (hl : l.length ≤ 1048576) (hp : l.Pairwise fun a b => a.n < b.n) (hR : RdC w A c l) :
    Calls Tryz.prog 98 #[.slice A l.length c, .string (bs s), .func (.func 99) #[] #[]] w fun e w' => (∃ (i : Nat) (is : Bool), e = .returned (.tuple #[.int .i64 i, .bool is]) ∧ AtP l s i is) ∧ Below w.heap.size w w' := by
  have HR := Aside0.mk hR
  have HP := Aside0.mk hp
  clear hR hp
  go_enter Tryz.func98, Tryz.ntmps98
  go_wp2
  go_loopw [9, 10] (fun v9 v10 wr => ∃ i j : Nat, v9 = .int .i64 i ∧ v10 = .int .i64 j ∧ i ≤ j ∧ j ≤ l.length ∧ Aside0 (∀ (t : Nat) x, t < i → l[t]? = some x → x.n < s) ∧ Aside0 (∀ (t : Nat) x, j ≤ t → l[t]? = some x → ¬ x.n < s) ∧ Aside0 (Below w.heap.size w wr)) (fun v9 v10 _ => (intOf v10).toNat - (intOf v9).toNat)
  case atStart => exact ⟨0, l.length, rfl, rfl, Nat.zero_le _, Nat.le_refl _, ⟨fun t x h => by omega⟩, ⟨fun t x h hx => by have := (List.getElem?_eq_some_iff.1 hx).1; omega⟩, ⟨Below.refl _ _⟩⟩
  case round =>
    obtain ⟨i, j, rfl, rfl, hij, hjl, HI, HJ, HW⟩ := hrel
    by_cases hlt : i < j
    · go_upto_region 5 with (fail)
      obtain ⟨h, hh⟩ : ∃ h : Nat, ((i : Int) + j) / 2 = h := ⟨(i + j) / 2, by omega⟩
      have hh1 : i ≤ h ∧ h < j := by omega
      rw [hh]
      clear hh
      obtain ⟨hh1, hh2⟩ := hh1
      have hx : l[h]? = some (l[h]'(by omega)) := List.getElem?_eq_getElem (by omega)
      obtain ⟨ad, A4, c4, rfl, z0, z1, z2, z3, z4, z5, hRL⟩ := (HR.out.below HW.out).at hx
      have hpw : ∀ (t : Nat) y, l[t]? = some y → (t < h → y.n < (l[h]'(by omega)).n) ∧ (h < t → (l[h]'(by omega)).n < y.n) := by
        intro t y hy
        obtain ⟨ht, rfl⟩ := List.getElem?_eq_some_iff.1 hy
        exact ⟨fun h1 => List.pairwise_iff_getElem.1 HP.out t h ht (by omega) h1, fun h1 => List.pairwise_iff_getElem.1 HP.out h t (by omega) ht h1⟩
      generalize (l[h]'(by omega)) = x at z0 z1 z2 z3 z4 z5 hRL hx hpw
      have hat := at1_any x A4 c4 s wr
      have hhl : (h : Int) < l.length := by omega
      have HX := Aside0.mk hx
      have HPW := Aside0.mk hpw
      clear hx hpw hRL
      by_cases hc : x.n < s
      · have hcm : cmpS x.n s = -1 := by unfold cmpS; rw [if_pos hc]
        rw [hcm] at hat
        have HI2 : Aside0 (∀ (t : Nat) y, t < h + 1 → l[t]? = some y → y.n < s) := ⟨fun t y ht hy => by
          rcases Nat.lt_or_ge t h with h1 | h1
          · exact S_tr ((HPW.out t y hy).1 h1) hc
          · obtain rfl : t = h := by omega
            rw [HX.out] at hy; injection hy with hy; subst hy; exact hc⟩
        clear hc hcm HPW HX
        go_wp2_with fail
        refine hat.mono ?_
        rintro e W3 ⟨rfl, hb⟩
        have HW3 := Aside0.mk (below_step HW.out hb)
        clear hat hb z0 z1 z2 z3 z4 z5
        go_wp2
        go_round
        case rel => exact ⟨h + 1, j, by go_num, rfl, by omega, hjl, HI2, HJ, HW3⟩
        case measure => simp [intOf]; omega
      · obtain ⟨k, hcm, hk⟩ : ∃ k, cmpS x.n s = k ∧ 0 ≤ k := ⟨_, rfl, by unfold cmpS; rw [if_neg hc]; split <;> decide⟩
        rw [hcm] at hat
        have HJ2 : Aside0 (∀ (t : Nat) y, h ≤ t → l[t]? = some y → ¬ y.n < s) := ⟨fun t y ht hy => by
          rcases Nat.eq_or_lt_of_le ht with h1 | h1
          · subst h1; rw [HX.out] at hy; injection hy with hy; subst hy; exact hc
          · exact fun h2 => hc (S_tr ((HPW.out t y hy).2 h1) h2)⟩
        clear hc hcm HPW HX
        go_wp2_with fail
        refine hat.mono ?_
        rintro e W3 ⟨rfl, hb⟩
        have HW3 := Aside0.mk (below_step HW.out hb)
        clear hat hb z0 z1 z2 z3 z4 z5
        go_wp2
        go_round
        case rel => exact ⟨i, h, rfl, rfl, hh1, by omega, HI, HJ2, HW3⟩
        case measure => simp [intOf]; omega
    · obtain rfl : i = j := by omega
      by_cases hin : i < l.length
      · have hx : l[i]? = some l[i] := List.getElem?_eq_getElem hin
        obtain ⟨ad, A4, c4, rfl, z0, z1, z2, z3, z4, z5, hRL⟩ := (HR.out.below HW.out).at hx
        have hge := HJ.out i _ (Nat.le_refl _) hx
        generalize l[i] = x at z0 z1 z2 z3 z4 z5 hRL hx hge
        have hat := at1_any x A4 c4 s wr
        obtain ⟨q, hq⟩ : ∃ q, decide ((l[i]?).map (·.n) = some s) = q := ⟨_, rfl⟩
        have hAt : AtP l s i q := ⟨hjl, HI.out, HJ.out, hq.symm⟩
        have hcm : cmpS x.n s = if q = true then 0 else 1 := by
          unfold cmpS
          rw [if_neg hge]
          rw [hx, Option.map_some] at hq
          by_cases he : x.n = s
          · rw [decide_eq_true (by rw [he])] at hq
            subst hq
            rw [if_neg (by rw [he]; exact S_irr _), if_pos rfl]
          · rw [decide_eq_false (by intro e; injection e with e; exact he e)] at hq
            subst hq
            rw [if_pos (S_tri hge he)]; rfl
        rw [hcm] at hat
        have HAt := Aside0.mk hAt
        clear hx hge hRL hq hAt hcm HI HJ
        cases q
        all_goals
          go_wp2_with fail
          refine hat.mono ?_
          rintro e W3 ⟨rfl, hb⟩
          have HW3 := Aside0.mk (below_step HW.out hb)
          clear hat hb z0 z1 z2 z3 z4 z5
          go_wp2
          go_ret2
          exact ⟨⟨i, _, rfl, HAt.out⟩, HW3.out⟩
      · have hx : l[i]? = none := List.getElem?_eq_none (by omega)
        have HAt : Aside0 (AtP l s i false) := ⟨hjl, HI.out, HJ.out, by rw [hx]; simp⟩
        clear hx HI HJ
        go_wp2
        go_ret2
        exact ⟨⟨i, _, rfl, HAt.out⟩, HW.out⟩
theorem at_any (l : List Cat) (A : Option Addr) (c : Nat) (s : S) (w : World) (hl : l.length ≤ 1048576) (hp : l.Pairwise fun a b => a.n < b.n) (hR : RdC w A c l) :
    Calls Tryz.prog 58 #[.slice A l.length c, .string (bs s)] w fun e w' => (∃ (i : Nat) (is : Bool), e = .returned (.tuple #[.int .i64 i, .bool is]) ∧ AtP l s i is) ∧ Below w.heap.size w w' := by
  have h := bsf_any l A c s w hl hp hR
  clear hR hp
  go_enter Tryz.func58, Tryz.ntmps58
  go_wp2_with fail
  refine h.mono ?_
  rintro e W1 ⟨⟨i, is, rfl, hat⟩, hb⟩
  have HA := Aside0.mk hat
  have HB := Aside0.mk hb
  clear hat hb h
  go_wp2
  go_ret2
  exact ⟨⟨i, is, rfl, HA.out⟩, HB.out⟩
end Go.Proofs.YthngelbaheankaaGreatDoor.Tpl
namespace Go.Proofs.YthngelbaheankaaGreatDoor.Tpl
open Go.RowKit Go.Proofs Go.Proofs.YthngelbaheankaaGreatDoor.PB Go.Proofs.YthngelbaheankaaGreatDoor.Short Go.Proofs.YthngelbaheankaaGreatDoorW.PrintWords Go.Proofs.YthngelbaheankaaGreatDoorW.PrintLast Go.Proofs.YthngelbaheankaaGreatDoorW.PrintMore
def Cat.zero : Cat := ⟨[], false, 0, 0, [], []⟩
def findP (l : List Cat) (s : S) : Cat × Int := if allC l = true then (match findC l s with
  | some x => (x, 0)
  | none => (Cat.zero, 3)) else (Cat.zero, 2)
def CatRet (r : Cat × Int) (w : World) (e : Ending) (w' : World) : Prop := (∃ A c, e = .returned (.tuple #[catV r.1 A c, .int .i64 r.2]) ∧ RdL w' A c r.1.ch) ∧ Below w.heap.size w w'
theorem RdL.nil (w : World) : RdL w none 0 [] := ⟨⟨rfl, Nat.zero_le _, fun h => absurd h (Nat.lt_irrefl 0)⟩, Nat.le_refl _⟩
set_option maxHeartbeats 2000000 in
set_option maxRecDepth 100000 in
theorem cfind_any (l : List Cat) (A : Option Addr) (c : Nat) (s : S) (w : World) (hG : GlobC w) (hs : smC l) (hR : RdC w A c l) : Calls Tryz.prog 23 #[.slice A l.length c, .string (bs s)] w (CatRet (findP l s) w) := by
  obtain ⟨r, hr⟩ : ∃ z, findP l s = z := ⟨_, rfl⟩
  rw [hr]
  have hb1 := below_alloc (Below.refl w.heap.size w) catZ
  have BK := blk_new w catZ
  have hall := call_any l A c (w.alloc catZ) (hG.below hb1) hs (hR.below hb1)
  have HR := Aside0.mk (hR.below hb1)
  have HB := Aside0.mk hb1
  have HS := Aside0.mk hs
  have HH := Aside0.mk hr
  have hl0 := hs.1
  clear hG hR hb1 hs hr
  go_enter Tryz.func23, Tryz.ntmps23
  go_upto_region 1 with (fail)
  generalize w.alloc catZ = W at BK HB HR hall ⊢
  obtain ⟨b1, hb1⟩ : ∃ b, w.heap.size = b := ⟨_, rfl⟩
  have Hb1 : Aside0 (w.heap.size ≤ b1) := ⟨by omega⟩
  rw [hb1] at BK ⊢
  clear hb1
  go_wp2_with fail
  refine hall.mono ?_
  rintro e W1 ⟨rfl, hb⟩
  have BK1 := Aside0.mk (blk_below BK hb)
  have HB1 := Aside0.mk (below_step HB.out hb)
  have HR1 := Aside0.mk (HR.out.below hb)
  clear hall hb BK HB HR
  cases hok : allC l with
  | false =>
    have hw : whyA l = 2 := by unfold whyA; rw [hok]; rfl
    rw [hw]
    obtain rfl : (Cat.zero, 2) = r := by rw [← HH.out]; unfold findP; rw [hok]; rfl
    obtain ⟨y0, y1, y2, y3, y4, y5, f0, f1, f2, f3, f4, f5⟩ := cells_6 BK1.out
    go_wp2
    refine bodyPost_ret (results_ct rfl _ _ b1 37 #[.string ⟨#[]⟩, .bool false, .int .i64 0, .int .i64 0, .slice none 0 0, .string ⟨#[]⟩] (0, 0) _ rfl (put6_blk BK1.out) Tryz.underlying37 rfl (by kernel_rfl)) rfl ?_
    exact ⟨⟨none, 0, rfl, RdL.nil _⟩, put6_below HB1.out Hb1.out⟩
  | true =>
    have hw : whyA l = 0 := by unfold whyA; rw [hok]; rfl
    have hp := (allC_iff.1 hok).2.2
    rw [hw]
    have hat := at_any l A c s W1 hl0 hp HR1.out
    have HF : Aside0 ((match findC l s with | some x => (x, 0) | none => (Cat.zero, 3)) = r) := ⟨by rw [← HH.out]; unfold findP; rw [hok]; rfl⟩
    have HP := Aside0.mk hp
    clear hok hw hp HH
    go_wp2_with fail
    refine hat.mono ?_
    rintro e W2 ⟨⟨i, is, rfl, hAt⟩, hb⟩
    have hfd := at_find HP.out hAt
    have BK2 := Aside0.mk (blk_below BK1.out hb)
    have HB2 := Aside0.mk (below_step HB1.out hb)
    have HR2 := Aside0.mk (HR1.out.below hb)
    have his := at_is hAt
    clear hat hb BK1 HB1 HR1 HP
    cases is with
    | false =>
      obtain rfl : (Cat.zero, 3) = r := by rw [← HF.out, hfd]; rfl
      obtain ⟨y0, y1, y2, y3, y4, y5, f0, f1, f2, f3, f4, f5⟩ := cells_6 BK2.out
      clear hfd his hAt
      go_wp2
      refine bodyPost_ret (results_ct rfl _ _ b1 37 #[.string ⟨#[]⟩, .bool false, .int .i64 0, .int .i64 0, .slice none 0 0, .string ⟨#[]⟩] (0, 0) _ rfl (put6_blk BK2.out) Tryz.underlying37 rfl (by kernel_rfl)) rfl ?_
      exact ⟨⟨none, 0, rfl, RdL.nil _⟩, put6_below HB2.out Hb1.out⟩
    | true =>
      obtain ⟨x, hx, -⟩ := his.1 rfl
      obtain rfl : (x, 0) = r := by rw [← HF.out, hfd, if_pos rfl, hx]
      obtain ⟨ad, A4, c4, rfl, z0, z1, z2, z3, z4, z5, hRL⟩ := HR2.out.at hx
      have hil : i < l.length := (List.getElem?_eq_some_iff.1 hx).1
      have how := ownC_any x A4 c4 W2 (HS.out.2 _ (List.mem_of_getElem? hx)) hRL
      clear hfd his hAt hRL hx
      go_wp2_with fail
      refine how.mono ?_
      rintro e W3 ⟨⟨A5, c5, rfl, hF5⟩, hb⟩
      have BK3 := Aside0.mk (blk_below BK2.out hb)
      have HB3 := Aside0.mk (below_step HB2.out hb)
      have HF5 := Aside0.mk hF5
      have hbw : b1 < W2.heap.size := blk_lt BK2.out
      obtain ⟨y0, y1, y2, y3, y4, y5, f0, f1, f2, f3, f4, f5⟩ := cells_6 BK3.out
      clear how hb hF5
      go_wp2
      refine bodyPost_ret (results_ct rfl _ _ b1 37 #[.string (bs x.n), .bool x.cr, .int .i64 x.w, .int .i64 x.b, .slice A5 x.ch.length c5, .string (bs x.s)] (0, 0) _ rfl (put6_blk BK3.out) Tryz.underlying37 rfl (by kernel_rfl)) rfl ?_
      exact ⟨⟨A5, c5, rfl, Kd.F_now (Kd.F_step HF5.out.1 (fun q hq _ => put6_far (fun e => by subst e; omega))), HF5.out.2⟩, put6_below HB3.out Hb1.out⟩
end Go.Proofs.YthngelbaheankaaGreatDoor.Tpl
namespace Go.Proofs.YthngelbaheankaaGreatDoor.Tpl
open Go.RowKit Go.Proofs Go.Proofs.YthngelbaheankaaGreatDoor.PB Go.Proofs.YthngelbaheankaaGreatDoor.Short Go.Proofs.YthngelbaheankaaGreatDoorW.PrintWords Go.Proofs.YthngelbaheankaaGreatDoorW.PrintLast Go.Proofs.YthngelbaheankaaGreatDoorW.PrintMore
def putP (l : List Cat) (x : Cat) : List Cat × Int := if allC l = true then (if x.ok = true then (if (rputF x l false).length ≤ 64 then (rputF x l false, 0) else (l, 8)) else (l, 2)) else ([], 2)
def CatsRet (r : List Cat × Int) (w : World) (e : Ending) (w' : World) : Prop := (∃ A c, e = .returned (.tuple #[.slice A r.1.length c, .int .i64 r.2]) ∧ RdC w' A c r.1) ∧ Below w.heap.size w w'
theorem NCt.rd {W : World} {base : Nat} {A : Option Addr} {c : Nat} {l : List Cat} (h : NCt W base (.slice A l.length c) l) : RdC W A c l := by
  have h2 := (Kd.N_reads' h).2
  rw [List.length_map] at h2
  exact ⟨h2.2, h2.1⟩
theorem insC_len {A : Option Addr} {c i vb : Nat} {l : List Cat} {x : Cat} {A4 : Option Addr} {c4 : Nat} {W : World} {base : Nat} {okx : Nat → Prop}
    (hN : NCt W base (.slice A l.length c) l) (hi : i ≤ l.length) (hn : l.length ≤ 1048575)
    (hv : W.heap[vb]? = some (catO x A4 c4)) (hx : FdL W okx A4 c4 x.ch) (hvb : ∀ k, (Value.slice A l.length c).ownBlock = some k → k ≠ vb)
    (hokx : ∀ k, okx k → some k ≠ (Value.slice A l.length c).ownBlock) (hbase : base ≤ W.heap.size) :
    Calls Tryz.prog 61 #[.slice A l.length c, .int .i64 i, .slice (some ⟨vb, 0, none⟩) 1 1] W fun e w' => (∃ A' c', e = .returned (.slice A' (insC l x i false).length c') ∧ RdC w' A' c' (insC l x i false)) ∧ Below base W w' := by
  have hFK := k37_mkF W okx x.of (A4 := A4) (c4 := c4) (by simpa [Cat.of] using hx.2) (by simpa [Cat.of] using hx.1)
  have h := insC_any A c i vb (l.map Cat.of) x.of [.string (bs x.n), .bool x.cr, .int .i64 x.w, .int .i64 x.b, .slice A4 x.ch.length c4, .string (bs x.s)] W base (fun _ => True) okx (by rw [List.length_map]; exact hN) (by rw [List.length_map]; exact hi) (by rw [List.length_map]; exact hn) hv (by simpa [Cat.of] using hFK) (by
      rw [List.length_map]; intro e; exact hvb vb e.symm rfl) trivial (fun k hk => ⟨trivial, by rw [List.length_map]; exact hokx k hk⟩) (fun _ _ => trivial) hbase
  rw [List.length_map] at h
  refine h.mono ?_
  rintro e w' ⟨A', c', rfl, hC, hle, hb⟩
  have e1 : (insC l x i false).length = l.length + 1 := by unfold insC; simp; omega
  have e2 : (l.map Cat.of).take i ++ x.of :: (l.map Cat.of).drop i = (insC l x i false).map Cat.of := by
    unfold insC
    simp only [Bool.false_eq_true, if_false, List.map_append, List.map_cons, List.map_take, List.map_drop]
  rw [e2] at hC
  exact ⟨⟨A', c', by rw [e1], by rw [RdC, e1]; exact ⟨hC, hle⟩⟩, hb⟩
set_option maxHeartbeats 4000000 in
set_option maxRecDepth 100000 in
theorem cput_any (l : List Cat) (A : Option Addr) (c : Nat) (x : Cat) (Ax : Option Addr) (cx : Nat) (w : World) (hG : GlobC w) (hs : smC l) (hR : RdC w A c l) (hxs : x.sm) (hX : RdL w Ax cx x.ch) :
    Calls Tryz.prog 25 #[.slice A l.length c, catV x Ax cx] w (CatsRet (putP l x) w) := by
  obtain ⟨r, hr⟩ : ∃ z, putP l x = z := ⟨_, rfl⟩
  rw [hr]
  have hb1 := below_alloc (Below.refl w.heap.size w) (catO x Ax cx)
  have BK := blk_new w (catO x Ax cx)
  have hall := call_any l A c (w.alloc (catO x Ax cx)) (hG.below hb1) hs (hR.below hb1)
  have HR := Aside0.mk (hR.below hb1)
  have HX := Aside0.mk (hX.below hb1)
  have HB := Aside0.mk hb1
  have HG := Aside0.mk (hG.below hb1)
  have HS := Aside0.mk hs
  have HH := Aside0.mk hr
  have hl0 := hs.1
  clear hG hR hb1 hs hr hX
  go_enter Tryz.func25, Tryz.ntmps25
  go_upto_region 1 with (fail)
  generalize w.alloc (catO x Ax cx) = W at BK HB HR HX HG hall ⊢
  generalize w.heap.size = b1 at BK ⊢
  go_wp2_with fail
  refine hall.mono ?_
  rintro e W1 ⟨rfl, hb⟩
  have BK1 := Aside0.mk (blk_below BK hb)
  have HB1 := Aside0.mk (below_step HB.out hb)
  have HR1 := Aside0.mk (HR.out.below hb)
  have HX1 := Aside0.mk (HX.out.below hb)
  have HG1 := Aside0.mk (HG.out.below hb)
  clear hall hb BK HB HR HX HG
  cases hok : allC l with
  | false =>
    have hw : whyA l = 2 := by unfold whyA; rw [hok]; rfl
    rw [hw]
    obtain rfl : ([], 2) = r := by rw [← HH.out]; unfold putP; rw [hok]; rfl
    clear hok hw HH
    go_wp2
    go_ret2
    exact ⟨⟨none, 0, rfl, RdC.nil _⟩, HB1.out⟩
  | true =>
    have hw : whyA l = 0 := by unfold whyA; rw [hok]; rfl
    obtain ⟨h64, -, hp⟩ := allC_iff.1 hok
    rw [hw]
    have HF : Aside0 ((if x.ok = true then (if (rputF x l false).length ≤ 64 then (rputF x l false, 0) else (l, 8)) else (l, 2)) = r) := ⟨by rw [← HH.out]; unfold putP; rw [hok]; rfl⟩
    have HP := Aside0.mk hp
    have how := owns_any l A c W1 HS.out HR1.out
    clear hok hw hp HH
    go_wp2_with fail
    refine how.mono ?_
    rintro e W2 ⟨⟨Av, cv, rfl, hN⟩, hb⟩
    have BK2 := Aside0.mk (blk_below BK1.out hb)
    have HB2 := Aside0.mk (below_step HB1.out hb)
    have HX2 := Aside0.mk (HX1.out.below hb)
    have HG2 := Aside0.mk (HG1.out.below hb)
    have HN := Aside0.mk (Kd.N_lower hN HB1.out.size)
    have hat := at_any l Av cv x.n W2 hl0 HP.out (NCt.rd hN)
    obtain ⟨y0, y1, y2, y3, y4, y5, -⟩ := cells_6 BK2.out
    clear how hb BK1 HB1 HR1 HX1 HG1 hN
    go_wp2_with fail
    refine hat.mono ?_
    rintro e W3 ⟨⟨i, is, rfl, hAt⟩, hb⟩
    have BK3 := Aside0.mk (blk_below BK2.out hb)
    have HB3 := Aside0.mk (below_step HB2.out hb)
    have HX3 := Aside0.mk (HX2.out.below hb)
    have HG3 := Aside0.mk (HG2.out.below hb)
    have HN3 := Aside0.mk (Kd.N_below HN.out hb)
    have HAt := Aside0.mk hAt
    have hck := ccheck_any x Ax cx W3 HG3.out hxs HX3.out
    clear hat hb BK2 HB2 HX2 HG2 HN hAt y0 y1 y2 y3 y4 y5
    obtain ⟨y0, y1, y2, y3, y4, y5, -⟩ := cells_6 BK3.out
    go_wp2_with fail
    refine hck.mono ?_
    rintro e W4 ⟨rfl, hb⟩
    have BK4 := Aside0.mk (blk_below BK3.out hb)
    have HB4 := Aside0.mk (below_step HB3.out hb)
    have HX4 := Aside0.mk (HX3.out.below hb)
    have HN4 := Aside0.mk (Kd.N_below HN3.out hb)
    clear hck hb BK3 HB3 HX3 HG3 HN3 y0 y1 y2 y3 y4 y5
    obtain ⟨y0, y1, y2, y3, y4, y5, -⟩ := cells_6 BK4.out
    cases hxo : x.ok with
    | false =>
      obtain rfl : (l, 2) = r := by rw [← HF.out, hxo]; rfl
      clear hxo HF HAt
      go_wp2
      go_ret2
      exact ⟨⟨Av, cv, rfl, NCt.rd HN4.out⟩, HB4.out⟩
    | true =>
      have HF2 : Aside0 ((if (insC l x i is).length ≤ 64 then (insC l x i is, 0) else (l, 8)) = r) := ⟨by rw [← HF.out, hxo, if_pos rfl, rput_ins x l HP.out HAt.out]⟩
      have hlen := ins_len HAt.out
      clear hxo HF
      cases is with
      | true =>
        rw [if_pos rfl] at hlen
        obtain rfl : (insC l x i true, 0) = r := by rw [← HF2.out, if_pos (by omega)]
        obtain ⟨x', hx', -⟩ := (at_is HAt.out).1 rfl
        have hil : i < l.length := (List.getElem?_eq_some_iff.1 hx').1
        have how := ownC_any x Ax cx W4 hxs HX4.out
        have hgb : ∃ g, Av = some ⟨g, 0, none⟩ ∧ g < W4.heap.size ∧ w.heap.size ≤ g := by
          obtain ⟨g, _, _, h1, h2, h3, _⟩ := NCt_at HN4.out hx'
          exact ⟨g, h1, h3, h2⟩
        obtain ⟨g, rfl, hg1, hg2⟩ := hgb
        go_wp2_with fail
        refine how.mono ?_
        rintro e W5 ⟨⟨A5, c5, rfl, hF5⟩, hb⟩
        have hN5 := Kd.N_below HN4.out hb
        obtain ⟨g', A6, c6, hg', -, -, z0, z1, z2, z3, z4, z5, f0, f1, f2, f3, f4, f5, -⟩ := NCt_at hN5 hx'
        obtain rfl : g = g' := by simpa using hg'
        have hN6 := NCt_set hN5 hil x ⟨Kd.F_mono hF5.1 (fun q hq e => by subst e; omega), hF5.2⟩
        have hB6 := put6_below (g := g) (o := i * 6) (a0 := .string (bs x.n)) (a1 := .bool x.cr) (a2 := .int .i64 x.w) (a3 := .int .i64 x.b) (a4 := .slice A5 x.ch.length c5) (a5 := .string (bs x.s)) (below_step HB4.out hb) hg2
        have HN6 := Aside0.mk hN6
        have HB6 := Aside0.mk hB6
        clear how hb hN5 hg' hF5 hN6 hB6 y0 y1 y2 y3 y4 y5 hx' HAt HF2
        go_wp2
        go_ret2
        have hR6 : RdC _ _ _ (l.set i x) := NCt.rd (A := some ⟨g, 0, none⟩) (c := cv) (by rw [List.length_set]; exact HN6.out)
        refine ⟨⟨some ⟨g, 0, none⟩, cv, ?_, hR6⟩, HB6.out⟩
        simp [insC]
      | false =>
        rw [if_neg (by decide)] at hlen
        by_cases hfull : (l.length : Int) = 64
        · obtain rfl : (l, 8) = r := by rw [← HF2.out, if_neg (by omega)]
          have hfb : ((l.length : Int) == 64) = true := by simpa using hfull
          clear HF2 HAt hlen
          go_wp2
          go_ret2
          exact ⟨⟨Av, cv, rfl, NCt.rd HN4.out⟩, HB4.out⟩
        · obtain rfl : (insC l x i false, 0) = r := by rw [← HF2.out, if_pos (by omega)]
          have hfb : ((l.length : Int) == 64) = false := by rw [beq_eq_false_iff_ne]; exact hfull
          have hile := HAt.out.1
          have how := ownC_any x Ax cx W4 hxs HX4.out
          clear HF2 HAt
          go_wp2_with fail
          refine how.mono ?_
          rintro e W5 ⟨⟨A5, c5, rfl, hF5⟩, hb⟩
          have hblk := below_alloc (Below.refl W5.heap.size W5) (catO x A5 c5)
          have hNl := Kd.N_lt HN4.out
          have hN6 := Kd.N_below (Kd.N_below HN4.out hb) hblk
          have hB6 := below_step (below_step HB4.out hb) hblk
          have hins := insC_len (vb := W5.heap.size) hN6 hile (by omega) (blk_new W5 (catO x A5 c5)) (hF5.below hblk) (fun k hk e => by have := hNl k hk; have := hb.size; omega) (fun k hk e => by have := hNl k e.symm; omega) hB6.size
          have HB6 := Aside0.mk hB6
          clear how hb hF5 hblk hNl hN6 hB6 y0 y1 y2 y3 y4 y5
          go_wp2_with fail
          refine hins.mono ?_
          rintro e W7 ⟨⟨A7, c7, rfl, hR7⟩, hb7⟩
          have HR7 := Aside0.mk hR7
          have HB7 := Aside0.mk (HB6.out.trans hb7)
          clear hins hR7 hb7
          go_wp2
          go_ret2
          exact ⟨⟨A7, c7, by simp [hlen], HR7.out⟩, HB7.out⟩
end Go.Proofs.YthngelbaheankaaGreatDoor.Tpl
namespace Go.Proofs.YthngelbaheankaaGreatDoor.Tpl
open Go.RowKit Go.Proofs Go.Proofs.YthngelbaheankaaGreatDoor.PB Go.Proofs.YthngelbaheankaaGreatDoor.Short Go.Proofs.YthngelbaheankaaGreatDoorW.PrintWords Go.Proofs.YthngelbaheankaaGreatDoorW.PrintLast Go.Proofs.YthngelbaheankaaGreatDoorW.PrintMore Nodes
theorem same_any (A : Option Addr) (c : Nat) (p : List S) (B : Option Addr) (d : Nat) (q : List S) (w : World) (hp : RdS w A c p) (hq : RdS w B d q) (hl : p.length ≤ 1048576) :
    Calls Tryz.prog 31 #[.slice A p.length c, .slice B q.length d] w fun e w' => e = .returned (.bool (decide (p = q))) ∧ Below w.heap.size w w' := by
  obtain ⟨k, hk⟩ := same_f p q hl
  have h := bellmanref01_SameTexts.calls k A c (p.map bs) B d (q.map bs) _ w (by rw [List.length_map]; exact hp.1) (by rw [List.length_map]; exact hp.2) (by rw [List.length_map]; exact hq.1) (by rw [List.length_map]; exact hq.2) hk
  rw [List.length_map, List.length_map] at h
  refine h.mono ?_
  rintro e w' ⟨rfl, hd⟩
  exact ⟨rfl, hd.below⟩
end Go.Proofs.YthngelbaheankaaGreatDoor.Tpl
namespace Go.Proofs.YthngelbaheankaaGreatDoor.Tpl
open Go.RowKit Go.Proofs Go.Proofs.YthngelbaheankaaGreatDoor.PB Go.Proofs.YthngelbaheankaaGreatDoor.Short Go.Proofs.YthngelbaheankaaGreatDoorW.PrintWords Go.Proofs.YthngelbaheankaaGreatDoorW.PrintLast Go.Proofs.YthngelbaheankaaGreatDoorW.PrintMore
def newsS : S := [110, 101, 119, 115]
def oldS : S := [111, 108, 100]
def srcN : S := [123, 123, 117, 115, 101, 114, 125, 125, 58, 32, 123, 123, 99, 111, 117, 110, 116, 125, 125]
def srcO : S := [123, 123, 110, 97, 109, 101, 125, 125]
def chN : List Lev := [⟨1, 300, 1, 1⟩, ⟨2, 0, 3, 10⟩]
def catN : Cat := ⟨newsS, false, 0, 0, chN, srcN⟩
def catE : Cat := ⟨newsS, false, 0, 0, chN, srcO⟩
def catF : Cat := ⟨newsS, false, 60, 0, chN, srcN⟩
theorem okN_ : catN.ok = true := by decide +kernel
theorem okE_ : catE.ok = false := by decide +kernel
theorem okF_ : catF.ok = false := by decide +kernel
theorem longN_ : longP catN = 320 ∧ whyP catN = 0 := by unfold longP whyP; rw [okN_]; decide
theorem lev1_ : levAt catN 1 = (⟨2, 0, 3, 10⟩, 0) := by unfold levAt; rw [okN_]; rfl
theorem lev2_ : levAt catN 2 = (Lev.zero, 3) := by unfold levAt; rw [okN_]; rfl
theorem allN_ : allC [catN] = true := by unfold allC upC upC; rw [okN_]; decide
theorem all0_ : allC [] = true := rfl
theorem putN_ : putP [] catN = ([catN], 0) := by unfold putP; rw [all0_, okN_]; rfl
theorem findN_ : findP [catN] newsS = (catN, 0) := by unfold findP; rw [allN_]; rfl
theorem findO_ : findP [catN] oldS = (Cat.zero, 3) := by unfold findP; rw [allN_]; rfl
theorem smN_ : catN.sm := ⟨by decide, by decide, by decide⟩
theorem smE_ : catE.sm := ⟨by decide, by decide, by decide⟩
theorem smF_ : catF.sm := ⟨by decide, by decide, by decide⟩
theorem smLN_ : smC [catN] := ⟨by decide, fun x hx => by rw [List.mem_singleton.1 hx]; exact smN_⟩
theorem smL0_ : smC [] := ⟨by decide, fun x hx => by cases hx⟩
end Go.Proofs.YthngelbaheankaaGreatDoor.Tpl
namespace Go.Proofs.YthngelbaheankaaGreatDoor.Tpl
open Go.RowKit Go.Proofs Go.Proofs.YthngelbaheankaaGreatDoor.PB Go.Proofs.YthngelbaheankaaGreatDoor.Short Go.Proofs.YthngelbaheankaaGreatDoorW.PrintWords Go.Proofs.YthngelbaheankaaGreatDoorW.PrintLast Go.Proofs.YthngelbaheankaaGreatDoorW.PrintMore
theorem lv_ext (a b : SLv) : a = b ↔ a.f0 = b.f0 ∧ a.f1 = b.f1 ∧ a.f2 = b.f2 ∧ a.f3 = b.f3 := by
  cases a; cases b; simp
theorem wrap_one (i : Nat) (h : i ≤ 1048576) : wrap64 ((i : Int) + 1) = ((i + 1 : Nat) : Int) := by unfold wrap64; omega
theorem same18_l0 (a b : List SLv) (x0 : ByteArray) (x1 : Bool) (x2 x3 : Int) (x5 y0 : ByteArray) (y1 : Bool) (y2 y3 : Int) (y5 : ByteArray) (hl : a.length = b.length) (hb : a.length ≤ 1048576) :
    ∀ d i, a.length - i = d → i ≤ a.length → ∃ r, bellmanref18_Same.l0 (d + 1) (a.length : Int) (i : Int) x0 x1 x2 x3 a x5 y0 y1 y2 y3 b y5 = some r ∧ (r = true ↔ a.drop i = b.drop i) := by
  intro d
  induction d with
  | zero =>
    intro i hd hi
    obtain rfl : i = a.length := by omega
    refine ⟨true, ?_, ?_⟩
    · rw [bellmanref18_Same.l0, if_neg (by omega)]
    · rw [List.drop_length, hl, List.drop_length]; simp
  | succ d ih =>
    intro i hd hi
    have ha : i < a.length := by omega
    have hbl : i < b.length := by omega
    rw [bellmanref18_Same.l0, if_pos (by omega), if_pos (by omega), if_pos (by omega), if_pos (by omega), wrap_one i (by omega)]
    have ea : rd_T41 a (i : Int) = a[i] := by unfold rd_T41; rw [Int.toNat_natCast, List.getD_eq_getElem?_getD, List.getElem?_eq_getElem ha]; rfl
    have eb : rd_T41 b (i : Int) = b[i] := by unfold rd_T41; rw [Int.toNat_natCast, List.getD_eq_getElem?_getD, List.getElem?_eq_getElem hbl]; rfl
    rw [ea, eb, List.drop_eq_getElem_cons ha, List.drop_eq_getElem_cons hbl]
    obtain ⟨r, h1, h2⟩ := ih (i + 1) (by omega) (by omega)
    by_cases he : a[i] = b[i]
    · rw [if_neg (by rw [he]; simp)]
      exact ⟨r, h1, by rw [h2, List.cons.injEq]; simp [he]⟩
    · refine ⟨false, ?_, by rw [List.cons.injEq]; exact ⟨fun h => (by cases h), fun h => absurd h.1 he⟩⟩
      rw [if_pos]
      have := mt (lv_ext a[i] b[i]).2 he
      simp only [Bool.or_eq_true, Bool.not_eq_true', beq_eq_false_iff_ne]
      exact Decidable.byContradiction fun h => this (by simp only [not_or, Decidable.not_not] at h; exact h)
theorem lev_inj : ∀ {a b : List Lev}, a.map Lev.of = b.map Lev.of ↔ a = b := by
  intro a b
  constructor
  · intro h
    refine (List.map_inj_right (f := Lev.of) fun x y hxy => ?_).1 h
    cases x; cases y
    simp only [Lev.of, S41.mk.injEq] at hxy
    simp only [Lev.mk.injEq]
    omega
  · intro h; rw [h]
theorem cat_ext (x y : Cat) : x = y ↔ x.n = y.n ∧ x.cr = y.cr ∧ x.w = y.w ∧ x.b = y.b ∧ x.s = y.s ∧ x.ch = y.ch := by
  cases x; cases y; simp only [Cat.mk.injEq]
  constructor
  · rintro ⟨a, b, c, d, e, f⟩; exact ⟨a, b, c, d, f, e⟩
  · rintro ⟨a, b, c, d, e, f⟩; exact ⟨a, b, c, d, f, e⟩
theorem same18_f (x y : Cat) (hx : x.ch.length ≤ 1048576) :
    ∃ k r, bellmanref18_Same.f k (bs x.n) x.cr x.w x.b (x.ch.map Lev.of) (bs x.s) (bs y.n) y.cr y.w y.b (y.ch.map Lev.of) (bs y.s) = some r ∧ (r = true ↔ x = y) := by
  have hj : ∀ k : Nat, bellmanref18_Same.j0 (k + 1) true (bs x.n) x.cr x.w x.b (x.ch.map Lev.of) (bs x.s) (bs y.n) y.cr y.w y.b (y.ch.map Lev.of) (bs y.s) = some false := fun k => by rw [bellmanref18_Same.j0, if_pos rfl]
  obtain ⟨k, hk⟩ : ∃ k, k = x.ch.length + 2 := ⟨_, rfl⟩
  refine ⟨k, ?_⟩
  unfold bellmanref18_Same.f
  rw [cat_ext, bs_list, bs_list, bs_list, bs_list]
  by_cases h1 : x.n = y.n
  · rw [if_pos h1]
    by_cases h2 : x.cr = y.cr
    · rw [if_neg (by rw [h2]; simp)]
      by_cases h3 : x.w = y.w
      · rw [if_pos h3]
        by_cases h4 : x.b = y.b
        · rw [if_pos h4]
          by_cases h5 : x.s = y.s
          · rw [if_pos h5]
            by_cases h6 : x.ch.length = y.ch.length
            · have hq : (((x.ch.map Lev.of).length : Int) != ((y.ch.map Lev.of).length : Int)) = false := by rw [List.length_map, List.length_map, h6]; simp
              rw [hq, hk, bellmanref18_Same.j0, if_neg (by decide)]
              obtain ⟨r, e1, e2⟩ := same18_l0 (x.ch.map Lev.of) (y.ch.map Lev.of) (bs x.n) x.cr x.w x.b (bs x.s) (bs y.n) y.cr y.w y.b (bs y.s) (by simpa using h6) (by simpa using hx) x.ch.length 0 (by simp) (Nat.zero_le _)
              refine ⟨r, by simpa using e1, ?_⟩
              rw [e2, List.drop_zero, List.drop_zero, lev_inj]
              simp [h1, h2, h3, h4, h5]
            · have hq : (((x.ch.map Lev.of).length : Int) != ((y.ch.map Lev.of).length : Int)) = true := by rw [List.length_map, List.length_map, bne_iff_ne]; omega
              rw [hq, hk]
              exact ⟨false, hj _, by simp only [Bool.false_eq_true, false_iff]; rintro ⟨_, _, _, _, _, h⟩; exact h6 (by rw [h])⟩
          · rw [if_neg h5, hk]; exact ⟨false, hj _, by simp [h5]⟩
        · rw [if_neg h4, hk]; exact ⟨false, hj _, by simp [h4]⟩
      · rw [if_neg h3, hk]; exact ⟨false, hj _, by simp [h3]⟩
    · rw [if_pos (by simpa using h2), hk]; exact ⟨false, hj _, by simp [h2]⟩
  · rw [if_neg h1, hk]; exact ⟨false, hj _, by simp [h1]⟩
theorem rsame_any (x y : Cat) (A : Option Addr) (c : Nat) (B : Option Addr) (d : Nat) (w : World) (hs : x.ch.length ≤ 1048576) (hx : RdL w A c x.ch) (hy : RdL w B d y.ch) :
    Calls Tryz.prog 29 #[catV x A c, catV y B d] w fun e w' => (∃ r, e = .returned (.bool r) ∧ (r = true ↔ x = y)) ∧ Below w.heap.size w w' := by
  obtain ⟨k, r, h1, h2⟩ := same18_f x y hs
  have h := bellmanref18_Same.calls k (bs x.n) x.cr x.w x.b A c (x.ch.map Lev.of) (bs x.s) (bs y.n) y.cr y.w y.b B d (y.ch.map Lev.of) (bs y.s) r w (by rw [List.length_map]; exact hx.1) (by rw [List.length_map]; exact hx.2) (by rw [List.length_map]; exact hy.1) (by rw [List.length_map]; exact hy.2) h1
  rw [List.length_map, List.length_map] at h
  exact h.mono fun e w' ⟨he, hb⟩ => ⟨⟨r, he, h2⟩, hb⟩
end Go.Proofs.YthngelbaheankaaGreatDoor.Tpl
namespace Go.Proofs.YthngelbaheankaaGreatDoor.Tpl
open Go.RowKit Go.Proofs Go.Proofs.YthngelbaheankaaGreatDoor.PB Go.Proofs.YthngelbaheankaaGreatDoor.Short Go.Proofs.YthngelbaheankaaGreatDoorW.PrintWords Go.Proofs.YthngelbaheankaaGreatDoorW.PrintLast Go.Proofs.YthngelbaheankaaGreatDoorW.PrintMore
abbrev oLv : Obj := .cells #[.int .u8 1, .int .i64 300, .int .i64 1, .int .i64 1, .int .u8 2, .int .i64 0, .int .i64 3, .int .i64 10] 41 (0, 0)
theorem rdL_of {W : World} {s : Nat} (h : W.heap[s]? = some oLv) : RdL W (some ⟨s, 0, none⟩) 2 chN := by
  refine ⟨⟨rfl, by decide, fun _ => ⟨_, rfl, fun j p hj => ?_⟩⟩, by decide⟩
  have hc : ∀ q u, (#[.int .u8 1, .int .i64 300, .int .i64 1, .int .i64 1, .int .u8 2, .int .i64 0, .int .i64 3, .int .i64 10] : Array Value)[q]? = some u → W.cell? ((⟨s, 0, none⟩ : Addr).add q) = some u := by
    intro q u hu
    rw [Addr.add_lit, Nat.zero_add]
    simp only [World.cell?, h]
    exact hu
  match j, hj with
  | 0, hj =>
    obtain rfl : (⟨1, 300, 1, 1⟩ : Lev).of = p := by simpa [chN] using hj
    exact ⟨_, rfl, k41_mk W (⟨1, 300, 1, 1⟩ : Lev).of, fun i u hu => hc _ u (by
      match i, hu with
      | 0, hu => exact hu
      | 1, hu => exact hu
      | 2, hu => exact hu
      | 3, hu => exact hu)⟩
  | 1, hj =>
    obtain rfl : (⟨2, 0, 3, 10⟩ : Lev).of = p := by simpa [chN] using hj
    exact ⟨_, rfl, k41_mk W (⟨2, 0, 3, 10⟩ : Lev).of, fun i u hu => hc _ u (by
      match i, hu with
      | 0, hu => exact hu
      | 1, hu => exact hu
      | 2, hu => exact hu
      | 3, hu => exact hu)⟩
abbrev aC (s : Nat) : Value := .agg #[.string ⟨#[110, 101, 119, 115]⟩, .bool false, .int .i64 0, .int .i64 0, .slice (some ⟨s, 0, none⟩) 2 2, .string ⟨#[123, 123, 117, 115, 101, 114, 125, 125, 58, 32, 123, 123, 99, 111, 117, 110, 116, 125, 125]⟩]
abbrev aE (s : Nat) : Value := .agg #[.string ⟨#[110, 101, 119, 115]⟩, .bool false, .int .i64 0, .int .i64 0, .slice (some ⟨s, 0, none⟩) 2 2, .string ⟨#[123, 123, 110, 97, 109, 101, 125, 125]⟩]
abbrev aF (s : Nat) : Value := .agg #[.string ⟨#[110, 101, 119, 115]⟩, .bool false, .int .i64 60, .int .i64 0, .slice (some ⟨s, 0, none⟩) 2 2, .string ⟨#[123, 123, 117, 115, 101, 114, 125, 125, 58, 32, 123, 123, 99, 111, 117, 110, 116, 125, 125]⟩]
abbrev oE (s : Nat) : Obj := .cells #[.string ⟨#[110, 101, 119, 115]⟩, .bool false, .int .i64 0, .int .i64 0, .slice (some ⟨s, 0, none⟩) 2 2, .string ⟨#[123, 123, 110, 97, 109, 101, 125, 125]⟩] 37 (0, 0)
abbrev oF (s : Nat) : Obj := .cells #[.string ⟨#[110, 101, 119, 115]⟩, .bool false, .int .i64 60, .int .i64 0, .slice (some ⟨s, 0, none⟩) 2 2, .string ⟨#[123, 123, 117, 115, 101, 114, 125, 125, 58, 32, 123, 123, 99, 111, 117, 110, 116, 125, 125]⟩] 37 (0, 0)
abbrev oC (s : Nat) : Obj := .cells #[.string ⟨#[110, 101, 119, 115]⟩, .bool false, .int .i64 0, .int .i64 0, .slice (some ⟨s, 0, none⟩) 2 2, .string ⟨#[123, 123, 117, 115, 101, 114, 125, 125, 58, 32, 123, 123, 99, 111, 117, 110, 116, 125, 125]⟩] 37 (0, 0)
structure LvC (w : World) (s : Nat) (W : World) : Prop where
  bel : Below w.heap.size w W
  bL : W.heap[s]? = some oLv
  bC : W.heap[s + 1]? = some (oC s)
theorem LvC.below {w : World} {s : Nat} {W W1 : World} (h : LvC w s W) (hb : Below W.heap.size W W1) : LvC w s W1 := ⟨below_step h.bel hb, blk_below h.bL hb, blk_below h.bC hb⟩
theorem LvC.rd {w : World} {s : Nat} {W : World} (h : LvC w s W) : RdL W (some ⟨s, 0, none⟩) 2 catN.ch := rdL_of h.bL
theorem lit1_at {V : World} {n : Nat} {s : S} (h : V.heap[n]? = some (.cells #[.string (bs s)] 9 (0, 0))) : RdS V (some ⟨n, 0, none⟩) 1 [s] := by
  refine ⟨⟨rfl, by simp, fun _ => ⟨_, rfl, fun j x hj => ?_⟩⟩, Nat.le_refl _⟩
  cases j with
  | succ j => simp at hj
  | zero =>
    simp at hj
    subst hj
    refine ⟨[.string (bs s)], rfl, rfl, fun i u hu => ?_⟩
    have hi : i = 0 := by have := (List.getElem?_eq_some_iff.1 hu).1; simp at this; omega
    subst hi
    simp at hu
    subst hu
    have e : (⟨n, 0, none⟩ : Addr).add (0 * Kd.sz Kd.string + 0) = ⟨n, 0, none⟩ := rfl
    rw [e]
    exact (blk_cell h 0).trans rfl
set_option maxHeartbeats 4000000 in
set_option maxRecDepth 100000 in
theorem lives18_any (w : World) (hG : GlobC w) : Calls Tryz.prog 19 #[] w fun e w' => e = .returned (.bool true) ∧ Below w.heap.size w w' := by
  have HG := Aside0.mk hG
  clear hG
  go_enter Tryz.func19, Tryz.ntmps19
  go_upto_region 2 with (fail)
  have hI : LvC w w.heap.size ((w.alloc oLv).alloc (oC w.heap.size)) := ⟨below_alloc (below_alloc (Below.refl _ _) _) _, blk_alloc (blk_new w _) _, by have := blk_new (w.alloc oLv) (oC w.heap.size); rw [World.size_alloc] at this; exact this⟩
  obtain ⟨s, hs⟩ : ∃ s, w.heap.size = s := ⟨_, rfl⟩
  rw [hs] at hI ⊢
  generalize (w.alloc oLv).alloc (oC s) = W at hI ⊢
  have HI := Aside0.mk hI
  obtain ⟨y0, y1, y2, y3, y4, y5, -⟩ := cells_6 hI.bC
  clear hI
  have h1 : Calls Tryz.prog 15 #[aC s] W fun e w' => e = .returned (.tuple #[.int .i64 320, .int .i64 0]) ∧ Below W.heap.size W w' := by
    have h := clong_any catN (some ⟨s, 0, none⟩) 2 W (HG.out.below HI.out.bel) smN_ HI.out.rd
    rw [longN_.1, longN_.2] at h
    exact h
  go_wp2_with fail
  refine h1.mono ?_
  rintro e W1 ⟨rfl, hb⟩
  have HI1 := Aside0.mk (HI.out.below hb)
  clear HI hb h1 y0 y1 y2 y3 y4 y5
  obtain ⟨y0, y1, y2, y3, y4, y5, -⟩ := cells_6 HI1.out.bC
  have h1 : Calls Tryz.prog 17 #[aC s, .int .i64 1] W1 fun e w' => e = .returned (.tuple #[.agg #[.int .u8 2, .int .i64 0, .int .i64 3, .int .i64 10], .int .i64 0]) ∧ Below W1.heap.size W1 w' := by
    have h := clevel_any catN (some ⟨s, 0, none⟩) 2 1 W1 (HG.out.below HI1.out.bel) smN_ HI1.out.rd
    rw [lev1_] at h
    exact h
  go_wp2_with fail
  refine h1.mono ?_
  rintro e W2 ⟨rfl, hb⟩
  have HI2 := Aside0.mk ((HI1.out.below hb).below (below_alloc (Below.refl _ _) (.cells #[.int .u8 2, .int .i64 0, .int .i64 3, .int .i64 10] 41)))
  have BL := blk_new W2 (.cells #[.int .u8 2, .int .i64 0, .int .i64 3, .int .i64 10] 41)
  clear HI1 hb h1 y0 y1 y2 y3 y4 y5
  go_upto_region 4 with (fail)
  generalize W2.alloc (.cells #[.int .u8 2, .int .i64 0, .int .i64 3, .int .i64 10] 41) = W3 at HI2 BL ⊢
  generalize W2.heap.size = bl at BL ⊢
  have HL := Aside0.mk BL
  obtain ⟨y0, y1, y2, y3, y4, y5, -⟩ := cells_6 HI2.out.bC
  clear BL
  have h1 : Calls Tryz.prog 17 #[aC s, .int .i64 2] W3 fun e w' => e = .returned (.tuple #[.agg #[.int .u8 0, .int .i64 0, .int .i64 0, .int .i64 0], .int .i64 3]) ∧ Below W3.heap.size W3 w' := by
    have h := clevel_any catN (some ⟨s, 0, none⟩) 2 2 W3 (HG.out.below HI2.out.bel) smN_ HI2.out.rd
    rw [lev2_] at h
    exact h
  go_wp2_with fail
  refine h1.mono ?_
  rintro e W4 ⟨rfl, hb⟩
  have HB := Aside0.mk (below_alloc hb (.cells #[.int .u8 0, .int .i64 0, .int .i64 0, .int .i64 0] 41))
  have HI3 := Aside0.mk (HI2.out.below HB.out)
  have HL3 := Aside0.mk (blk_below HL.out HB.out)
  clear HI2 hb h1 HB HL y0 y1 y2 y3 y4 y5
  go_upto_region 5 with (fail)
  generalize W4.alloc (.cells #[.int .u8 0, .int .i64 0, .int .i64 0, .int .i64 0] 41) = W5 at HI3 HL3 ⊢
  obtain ⟨y0, y1, y2, y3, y4, y5, -⟩ := cells_6 HI3.out.bC
  have h1 : Calls Tryz.prog 25 #[.slice none 0 0, aC s] W5 fun e w' => (∃ A c, e = .returned (.tuple #[.slice A 1 c, .int .i64 0]) ∧ RdC w' A c [catN]) ∧ Below W5.heap.size W5 w' := by
    have h := cput_any [] none 0 catN (some ⟨s, 0, none⟩) 2 W5 (HG.out.below HI3.out.bel) smL0_ (RdC.nil _) smN_ HI3.out.rd
    rw [putN_] at h
    exact h
  go_wp2_with fail
  refine h1.mono ?_
  rintro e W6 ⟨⟨Am, cm, rfl, hM⟩, hb⟩
  have HI6 := Aside0.mk (HI3.out.below hb)
  have HL6 := Aside0.mk (blk_below HL3.out hb)
  have HM6 := Aside0.mk hM
  clear HI3 HL3 hb h1 hM y0 y1 y2 y3 y4 y5
  have h1 : Calls Tryz.prog 23 #[.slice Am 1 cm, .string ⟨#[110, 101, 119, 115]⟩] W6 fun e w' => (∃ A c, e = .returned (.tuple #[.agg #[.string ⟨#[110, 101, 119, 115]⟩, .bool false, .int .i64 0, .int .i64 0, .slice A 2 c, .string ⟨#[123, 123, 117, 115, 101, 114, 125, 125, 58, 32, 123, 123, 99, 111, 117, 110, 116, 125, 125]⟩], .int .i64 0]) ∧ RdL w' A c chN) ∧ Below W6.heap.size W6 w' := by
    have h := cfind_any [catN] Am cm newsS W6 (HG.out.below HI6.out.bel) smLN_ HM6.out
    rw [findN_] at h
    exact h
  go_wp2_with fail
  refine h1.mono ?_
  rintro e W7 ⟨⟨Ad, cd, rfl, hD⟩, hb⟩
  have hb2 := below_alloc hb (.cells #[.string ⟨#[110, 101, 119, 115]⟩, .bool false, .int .i64 0, .int .i64 0, .slice Ad 2 cd, .string ⟨#[123, 123, 117, 115, 101, 114, 125, 125, 58, 32, 123, 123, 99, 111, 117, 110, 116, 125, 125]⟩] 37)
  have BD := blk_new W7 (.cells #[.string ⟨#[110, 101, 119, 115]⟩, .bool false, .int .i64 0, .int .i64 0, .slice Ad 2 cd, .string ⟨#[123, 123, 117, 115, 101, 114, 125, 125, 58, 32, 123, 123, 99, 111, 117, 110, 116, 125, 125]⟩] 37)
  have HI8 := Aside0.mk (HI6.out.below hb2)
  have HL8 := Aside0.mk (blk_below HL6.out hb2)
  have HM8 := Aside0.mk (HM6.out.below hb2)
  have HD8 := Aside0.mk (hD.below (below_alloc (Below.refl _ _) (.cells #[.string ⟨#[110, 101, 119, 115]⟩, .bool false, .int .i64 0, .int .i64 0, .slice Ad 2 cd, .string ⟨#[123, 123, 117, 115, 101, 114, 125, 125, 58, 32, 123, 123, 99, 111, 117, 110, 116, 125, 125]⟩] 37)))
  clear HI6 HL6 HM6 hb hb2 h1 hD
  go_upto_region 7 with (fail)
  generalize W7.alloc (.cells #[.string ⟨#[110, 101, 119, 115]⟩, .bool false, .int .i64 0, .int .i64 0, .slice Ad 2 cd, .string ⟨#[123, 123, 117, 115, 101, 114, 125, 125, 58, 32, 123, 123, 99, 111, 117, 110, 116, 125, 125]⟩] 37) = W8 at BD HI8 HL8 HM8 HD8 ⊢
  generalize W7.heap.size = bd at BD ⊢
  have HBD := Aside0.mk BD
  clear BD
  have h1 : Calls Tryz.prog 27 #[.slice Am 1 cm] W8 fun e w' => (∃ An cn, e = .returned (.tuple #[.slice An 1 cn, .int .i64 0]) ∧ RdS w' An cn [newsS]) ∧ Below W8.heap.size W8 w' := by
    have h := cnames_any [catN] Am cm W8 (HG.out.below HI8.out.bel) smLN_ HM8.out
    simp only [whyA, allN_, if_true] at h
    exact h
  go_wp2_with fail
  refine h1.mono ?_
  rintro e W9 ⟨⟨An, cn, rfl, hN⟩, hb⟩
  have HI9 := Aside0.mk (HI8.out.below hb)
  have HL9 := Aside0.mk (blk_below HL8.out hb)
  have HM9 := Aside0.mk (HM8.out.below hb)
  have HD9 := Aside0.mk (HD8.out.below hb)
  have HBD9 := Aside0.mk (blk_below HBD.out hb)
  have HN9 := Aside0.mk hN
  clear HI8 HL8 HM8 HD8 HBD hb h1 hN
  have h1 : Calls Tryz.prog 23 #[.slice Am 1 cm, .string ⟨#[111, 108, 100]⟩] W9 fun e w' => (∃ A c, e = .returned (.tuple #[.agg #[.string ⟨#[]⟩, .bool false, .int .i64 0, .int .i64 0, .slice A 0 c, .string ⟨#[]⟩], .int .i64 3])) ∧ Below W9.heap.size W9 w' := by
    have h := cfind_any [catN] Am cm oldS W9 (HG.out.below HI9.out.bel) smLN_ HM9.out
    rw [findO_] at h
    exact h.mono fun e w' ⟨⟨A, c, he, _⟩, hb⟩ => ⟨⟨A, c, he⟩, hb⟩
  go_wp2_with fail
  refine h1.mono ?_
  rintro e WA ⟨⟨Az, cz, rfl⟩, hb⟩
  have hb2 := below_alloc hb (.cells #[.string ⟨#[]⟩, .bool false, .int .i64 0, .int .i64 0, .slice Az 0 cz, .string ⟨#[]⟩] 37)
  have HI10 := Aside0.mk (HI9.out.below hb2)
  have HL10 := Aside0.mk (blk_below HL9.out hb2)
  have HM10 := Aside0.mk (HM9.out.below hb2)
  have HD10 := Aside0.mk (HD9.out.below hb2)
  have HBD10 := Aside0.mk (blk_below HBD9.out hb2)
  have HN10 := Aside0.mk (RdS.below HN9.out hb2)
  clear HI9 HL9 HM9 HD9 HBD9 HN9 hb hb2 h1
  go_upto_region 9 with (fail)
  generalize WA.alloc (.cells #[.string ⟨#[]⟩, .bool false, .int .i64 0, .int .i64 0, .slice Az 0 cz, .string ⟨#[]⟩] 37) = WB at HI10 HL10 HM10 HD10 HBD10 HN10 ⊢
  obtain ⟨y0, y1, y2, y3, y4, y5, -⟩ := cells_6 HI10.out.bC
  go_upto_region 10 with (fail)
  have hbC := below_alloc (Below.refl WB.heap.size WB) (oC s)
  have BE := blk_new WB (oC s)
  have hI11 := HI10.out.below hbC
  have HBC := Aside0.mk hbC
  clear hbC y0 y1 y2 y3 y4 y5
  obtain ⟨be, hbe⟩ : ∃ b, WB.heap.size = b := ⟨_, rfl⟩
  have Hbe := Aside0.mk hbe
  generalize WB.alloc (oC s) = WC at BE hI11 HBC ⊢
  rw [hbe] at BE ⊢
  clear hbe
  obtain ⟨u0, u1, u2, u3, u4, u5, v0, v1, v2, v3, v4, v5⟩ := cells_6 BE
  go_upto_region 11 with (fail)
  have BE2 : (WC.setCell ⟨be, 5, none⟩ (.string ⟨#[123, 123, 110, 97, 109, 101, 125, 125]⟩)).heap[be]? = some (oE s) := blk_put BE 5 (.string ⟨#[123, 123, 110, 97, 109, 101, 125, 125]⟩) rfl
  have hbD : Below WB.heap.size WB (WC.setCell ⟨be, 5, none⟩ (.string ⟨#[123, 123, 110, 97, 109, 101, 125, 125]⟩)) := below_set HBC.out (Nat.le_of_eq Hbe.out)
  clear u0 u1 u2 u3 u4 u5 v0 v1 v2 v3 v4 v5 BE hI11 HBC
  generalize WC.setCell ⟨be, 5, none⟩ (.string ⟨#[123, 123, 110, 97, 109, 101, 125, 125]⟩) = WD at BE2 hbD ⊢
  have HI12 := Aside0.mk (HI10.out.below hbD)
  obtain ⟨y0, y1, y2, y3, y4, y5, -⟩ := cells_6 HI12.out.bC
  go_upto_region 12 with (fail)
  have hbE := below_alloc hbD (oC s)
  have BF := blk_new WD (oC s)
  have BE3 := blk_alloc BE2 (oC s)
  have hle := hbD.size
  have hlt := blk_lt BE2
  clear y0 y1 y2 y3 y4 y5 BE2 hbD
  obtain ⟨bf, hbf⟩ : ∃ b, WD.heap.size = b := ⟨_, rfl⟩
  rw [hbf] at BF hle hlt ⊢
  generalize WD.alloc (oC s) = WE at BF BE3 hbE ⊢
  obtain ⟨u0, u1, u2, u3, u4, u5, v0, v1, v2, v3, v4, v5⟩ := cells_6 BF
  go_upto_region 13 with (fail)
  have hef : be ≠ bf := Nat.ne_of_lt hlt
  have BE4 : (WE.setCell ⟨bf, 2, none⟩ (.int .i64 60)).heap[be]? = some (oE s) := by rw [Below.heap_setCell _ _ _ _ hef]; exact BE3
  have BF2 : (WE.setCell ⟨bf, 2, none⟩ (.int .i64 60)).heap[bf]? = some (oF s) := blk_put BF 2 (.int .i64 60) rfl
  have hbF : Below WB.heap.size WB (WE.setCell ⟨bf, 2, none⟩ (.int .i64 60)) := below_set hbE hle
  clear u0 u1 u2 u3 u4 u5 v0 v1 v2 v3 v4 v5 BF BE3 hbE HI12 hbf hle hlt hef Hbe
  generalize WE.setCell ⟨bf, 2, none⟩ (.int .i64 60) = WF at BE4 BF2 hbF ⊢
  have HI13 := Aside0.mk (HI10.out.below hbF)
  have HL13 := Aside0.mk (blk_below HL10.out hbF)
  have HM13 := Aside0.mk (HM10.out.below hbF)
  have HD13 := Aside0.mk (HD10.out.below hbF)
  have HBD13 := Aside0.mk (blk_below HBD10.out hbF)
  have HN13 := Aside0.mk (RdS.below HN10.out hbF)
  have HE13 := Aside0.mk BE4
  have HF13 := Aside0.mk BF2
  clear HI10 HL10 HM10 HD10 HBD10 HN10 BE4 BF2 hbF
  obtain ⟨y0, y1, y2, y3, y4, y5, -⟩ := cells_6 HI13.out.bC
  obtain ⟨d0, d1, d2, d3, d4, d5, -⟩ := cells_6 HBD13.out
  obtain ⟨l0, l1, l2, l3, -⟩ := cells_4 HL13.out
  have h1 : Calls Tryz.prog 29 #[.agg #[.string ⟨#[110, 101, 119, 115]⟩, .bool false, .int .i64 0, .int .i64 0, .slice Ad 2 cd, .string ⟨#[123, 123, 117, 115, 101, 114, 125, 125, 58, 32, 123, 123, 99, 111, 117, 110, 116, 125, 125]⟩], aC s] WF fun e w' => e = .returned (.bool true) ∧ Below WF.heap.size WF w' := by
    have h := rsame_any catN catN Ad cd (some ⟨s, 0, none⟩) 2 WF (by decide) HD13.out HI13.out.rd
    exact h.mono fun e w' ⟨⟨r, he, hr⟩, hb⟩ => ⟨by rw [he, hr.2 rfl], hb⟩
  go_wp2_with fail
  refine h1.mono ?_
  rintro e WG ⟨rfl, hb⟩
  have hbl := below_alloc hb (.cells #[.string ⟨#[110, 101, 119, 115]⟩] 9)
  have BT := blk_new WG (.cells #[.string ⟨#[110, 101, 119, 115]⟩] 9)
  have HI14 := Aside0.mk (HI13.out.below hbl)
  have HM14 := Aside0.mk (HM13.out.below hbl)
  have HN14 := Aside0.mk (RdS.below HN13.out hbl)
  have HE14 := Aside0.mk (blk_below HE13.out hbl)
  have HF14 := Aside0.mk (blk_below HF13.out hbl)
  clear HI13 HM13 HN13 HE13 HF13 HL13 HD13 HBD13 hb hbl h1 y0 y1 y2 y3 y4 y5 d0 d1 d2 d3 d4 d5 l0 l1 l2 l3
  have h1 : Calls Tryz.prog 31 #[.slice An 1 cn, .slice (some ⟨WG.heap.size, 0, none⟩) 1 1] (WG.alloc (.cells #[.string ⟨#[110, 101, 119, 115]⟩] 9)) fun e w' => e = .returned (.bool true) ∧ Below (WG.alloc (.cells #[.string ⟨#[110, 101, 119, 115]⟩] 9)).heap.size (WG.alloc (.cells #[.string ⟨#[110, 101, 119, 115]⟩] 9)) w' := by
    have h := same_any An cn [newsS] (some ⟨WG.heap.size, 0, none⟩) 1 [newsS] (WG.alloc (.cells #[.string ⟨#[110, 101, 119, 115]⟩] 9)) HN14.out (lit1_at BT) (by decide)
    rw [decide_eq_true rfl] at h
    exact h
  go_wp2_with fail
  refine h1.mono ?_
  rintro e WH ⟨rfl, hb⟩
  have HI15 := Aside0.mk (HI14.out.below hb)
  have HM15 := Aside0.mk (HM14.out.below hb)
  have HE15 := Aside0.mk (blk_below HE14.out hb)
  have HF15 := Aside0.mk (blk_below HF14.out hb)
  clear HI14 HM14 HE14 HF14 HN14 BT hb h1
  obtain ⟨y0, y1, y2, y3, y4, y5, -⟩ := cells_6 HI15.out.bC
  have h1 : Calls Tryz.prog 20 #[aC s] WH fun e w' => e = .returned (.int .i64 0) ∧ Below WH.heap.size WH w' := by
    have h := ccheck_any catN (some ⟨s, 0, none⟩) 2 WH (HG.out.below HI15.out.bel) smN_ HI15.out.rd
    rw [okN_] at h
    exact h
  go_wp2_with fail
  refine h1.mono ?_
  rintro e WI ⟨rfl, hb⟩
  have HI16 := Aside0.mk (HI15.out.below hb)
  have HM16 := Aside0.mk (HM15.out.below hb)
  have HE16 := Aside0.mk (blk_below HE15.out hb)
  have HF16 := Aside0.mk (blk_below HF15.out hb)
  clear HI15 HM15 HE15 HF15 hb h1 y0 y1 y2 y3 y4 y5
  obtain ⟨y0, y1, y2, y3, y4, y5, -⟩ := cells_6 HE16.out
  have h1 : Calls Tryz.prog 20 #[aE s] WI fun e w' => e = .returned (.int .i64 2) ∧ Below WI.heap.size WI w' := by
    have h := ccheck_any catE (some ⟨s, 0, none⟩) 2 WI (HG.out.below HI16.out.bel) smE_ HI16.out.rd
    rw [okE_] at h
    exact h
  go_wp2_with fail
  refine h1.mono ?_
  rintro e WJ ⟨rfl, hb⟩
  have HI17 := Aside0.mk (HI16.out.below hb)
  have HM17 := Aside0.mk (HM16.out.below hb)
  have HF17 := Aside0.mk (blk_below HF16.out hb)
  clear HI16 HM16 HE16 HF16 hb h1 y0 y1 y2 y3 y4 y5
  obtain ⟨y0, y1, y2, y3, y4, y5, -⟩ := cells_6 HF17.out
  have h1 : Calls Tryz.prog 20 #[aF s] WJ fun e w' => e = .returned (.int .i64 2) ∧ Below WJ.heap.size WJ w' := by
    have h := ccheck_any catF (some ⟨s, 0, none⟩) 2 WJ (HG.out.below HI17.out.bel) smF_ HI17.out.rd
    rw [okF_] at h
    exact h
  go_wp2_with fail
  refine h1.mono ?_
  rintro e WK ⟨rfl, hb⟩
  have HI18 := Aside0.mk (HI17.out.below hb)
  have HM18 := Aside0.mk (HM17.out.below hb)
  clear HI17 HM17 HF17 hb h1 y0 y1 y2 y3 y4 y5
  have h1 : Calls Tryz.prog 32 #[.slice Am 1 cm] WK fun e w' => e = .returned (.int .i64 0) ∧ Below WK.heap.size WK w' := by
    have h := call_any [catN] Am cm WK (HG.out.below HI18.out.bel) smLN_ HM18.out
    simp only [whyA, allN_, if_true] at h
    exact h
  go_wp2_with fail
  refine h1.mono ?_
  rintro e WL ⟨rfl, hb⟩
  have HI19 := Aside0.mk (HI18.out.below hb)
  clear HI18 HM18 hb h1
  go_wp2
  go_ret
  exact ⟨rfl, HI19.out.bel⟩
end Go.Proofs.YthngelbaheankaaGreatDoor.Tpl
namespace Go.Proofs.YthngelbaheankaaGreatDoor.Tpl
open Go.RowKit Go.Proofs Go.Proofs.YthngelbaheankaaGreatDoor.PB Go.Proofs.YthngelbaheankaaGreatDoor.Short Go.Proofs.YthngelbaheankaaGreatDoorW.PrintWords Go.Proofs.YthngelbaheankaaGreatDoorW.PrintLast Go.Proofs.YthngelbaheankaaGreatDoorW.PrintMore Nodes
theorem lens_le (m : Nat) (l : List (List UInt8)) (h : ∀ s, s ∈ l → s.length ≤ m) : Lib.lens l ≤ l.length * m := by
  induction l with
  | nil => simp [Lib.lens]
  | cons x r ih =>
    have h1 := h x (by simp)
    have h2 := ih (fun s hs => h s (by simp [hs]))
    have e : Lib.lens (x :: r) = x.length + Lib.lens r := by simp [Lib.lens]
    rw [e, List.length_cons, Nat.add_mul, Nat.one_mul]
    omega
theorem join_le (p : List S) (hp : p.length ≤ 1048576) (hs : ∀ s, s ∈ p → s.length ≤ 1048576) : (Lib.join ((p.map bs).map (·.data.toList)) [46]).length ≤ 140737488355328 := by
  have e : (p.map bs).map (·.data.toList) = p := by
    rw [List.map_map]
    exact (List.map_congr_left (fun s _ => by simp [bs])).trans (List.map_id p)
  rw [e]
  cases p with
  | nil => simp [Lib.join]
  | cons x r =>
    rw [Lib.join_length]
    have h1 := lens_le 1048576 (x :: r) hs
    have h2 : (x :: r).length * 1048576 ≤ 1048576 * 1048576 := Nat.mul_le_mul_right _ hp
    simp only [List.length_cons, List.length_nil] at h1 h2 hp ⊢
    omega
theorem le16 {n : Nat} (h : n ≤ 3145728) : (n + 1) * 16 ≤ 140737488355328 := by omega
end Go.Proofs.YthngelbaheankaaGreatDoor.Tpl
namespace Go.Proofs.YthngelbaheankaaGreatDoor.Tpl
open Go.RowKit Go.Proofs Go.Proofs.YthngelbaheankaaGreatDoor.PB Go.Proofs.YthngelbaheankaaGreatDoor.Short Go.Proofs.YthngelbaheankaaGreatDoorW.PrintWords Go.Proofs.YthngelbaheankaaGreatDoorW.PrintLast Go.Proofs.YthngelbaheankaaGreatDoorW.PrintMore Nodes
def pjoin (t : Tok) : Option S := if t.p.isEmpty = true then none else some (Lib.join t.p [46])
def pathsL (ts : List Tok) : List S := ts.filterMap pjoin
theorem pathsL_take {l : List Tok} {j : Nat} {x : Tok} (h : l[j]? = some x) : pathsL (l.take (j + 1)) = pathsL (l.take j) ++ (pjoin x).toList := by
  unfold pathsL
  rw [List.take_add_one, h, List.filterMap_append]
  cases hp : pjoin x <;> simp [hp]
theorem joinP2_any (A : Option Addr) (c : Nat) (p : List S) (w : World) (hC : Kd.string.C w A p.length (p.map bs)) (hc : p.length ≤ c) (h0 : 0 < p.length) (hp : p.length ≤ 1048576) (hs : ∀ s, s ∈ p → s.length ≤ 1048576) :
    Calls Tryz.prog 65 #[.slice A p.length c, .string ⟨#[46]⟩] w fun e w' => e = .returned (.string (bs (Lib.join p [46]))) ∧ Below w.heap.size w w' := by
  have hR : RdS w A c p := ⟨hC, hc⟩
  obtain ⟨bk, o, rfl, _⟩ := cellS hR 0 h0
  have hcell : ∀ (j : Nat) x, (p.map bs)[j]? = some x → w.cell? ⟨bk, o + j, none⟩ = some (.string x) := by
    intro j x hx
    have hj : j < p.length := by have := (List.getElem?_eq_some_iff.1 hx).1; simpa using this
    obtain ⟨bk', o', e, h⟩ := cellS hR j hj
    cases e
    rw [h, List.getElem?_map] at *
    obtain ⟨y, hy, rfl⟩ := Option.map_eq_some_iff.1 hx
    simp [List.getD, hy]
  have hlt : bk < w.heap.size := by
    obtain ⟨x, hx⟩ : ∃ x, (p.map bs)[0]? = some x := ⟨_, List.getElem?_eq_getElem (by simpa using h0)⟩
    exact World.block_lt_of_cell? _ _ (hcell 0 x hx)
  have h := Tryz.strings_Join bk o c (p.map bs) ⟨#[46]⟩ w hcell hlt (by simp; omega) (by simpa using hc) (join_le p hp hs)
  rw [List.length_map] at h
  have e0 : (p.map bs).map (·.data.toList) = p := by
    rw [List.map_map]
    exact (List.map_congr_left (fun s _ => by simp [bs])).trans (List.map_id p)
  refine h.mono fun e w' ⟨he, hb⟩ => ⟨?_, hb⟩
  rw [he]
  show Ending.returned (.string ⟨(Lib.join ((p.map bs).map (·.data.toList)) [46]).toArray⟩) = _
  rw [e0]; rfl
set_option maxHeartbeats 2000000 in
set_option maxRecDepth 100000 in
theorem paths2_any (l : Nodes) (A : Option Addr) (c : Nat) (w : World) (hG : Glob w) (hs : l.sm) (hR : Rd w A c l) (hl : l.len ≤ 1048576) (hc : l.cnt ≤ 1048576) :
    Calls Tryz.prog 35 #[.slice A l.len c] w fun e w' => ∃ Ap cp ps, e = .returned (.tuple #[.slice Ap (List.length ps) cp, .int .i64 (if l.chk = true then 0 else 2)]) ∧ RdS w' Ap cp ps ∧ (l.chk = true → ps = pathsL l.toks) ∧ ps.length ≤ 3145728 ∧ Below w.heap.size w w' := by
  have ht := tokens_any l A c w hG hs hR hl hc
  have htl := toks_len l
  have hsm := toks_sm l hs
  have HC : l.chk = true → l.cnt ≤ 256 := fun h => by
    unfold chk fitsP at h
    simp only [Bool.and_eq_true, decide_eq_true_eq] at h
    exact h.1.2
  obtain ⟨r, hr⟩ : ∃ r : Int, (if l.chk = true then 0 else 2) = r := ⟨_, rfl⟩
  rw [hr] at ht ⊢
  clear hr hs hR hG
  go_enter Tryz.func35, Tryz.ntmps35
  go_wp2_with fail
  refine ht.mono ?_
  rintro e w1 ⟨v, rfl, ⟨hv1, hv2⟩, hb⟩
  obtain ⟨A2, c2, ts, rfl, hT, hts, htn, hte⟩ : ∃ A2 c2 ts, v = .slice A2 (List.length ts) c2 ∧ RdT w1 A2 c2 ts ∧ (∀ x, x ∈ ts → x.sm) ∧ ts.length ≤ 3145728 ∧ (l.chk = true → ts = l.toks) := by
    cases hk : l.chk with
    | true =>
      obtain ⟨A2, c2, e, h⟩ := rdT_of_R (hv1 hk)
      exact ⟨A2, c2, l.toks, e, h, hsm, by simp only [tokv, List.length_map] at htl; have := HC hk; omega, fun _ => rfl⟩
    | false => exact ⟨none, 0, [], hv2 hk, ⟨Kd.C_nil kT w1, Nat.le_refl _⟩, fun x hx => by simp at hx, by simp, fun h => by cases h⟩
  have HT := Aside0.mk hT
  have HTS := Aside0.mk hts
  have HTE := Aside0.mk hte
  have HB1 := Aside0.mk hb
  clear ht htl hsm HC hv1 hv2 hT hts hte hb
  go_wp2
  go_loopw [6, 16] (fun s6 s16 wr => ∃ (j : Nat) (xs : List ByteArray) (u : Value), u = s6 ∧ s16 = .int .i64 j ∧ j ≤ ts.length ∧ xs.length ≤ j ∧ Aside0 (Kd.R Kd.string 9 wr w1.heap.size (fun _ => True) u xs) ∧ Aside0 (xs = (pathsL (ts.take j)).map bs) ∧ Aside0 (Below w1.heap.size w1 wr)) (fun _ v _ => ts.length - (intOf v).toNat)
  case atStart => exact ⟨0, [], _, rfl, rfl, Nat.zero_le _, Nat.zero_le _, ⟨Kd.R_nil _ _ _ _ _⟩, ⟨by rw [List.take_zero]; rfl⟩, ⟨Below.refl _ _⟩⟩
  case round =>
    obtain ⟨j, xs, u6, rfl, rfl, hj, hxj, HR, HX, HW⟩ := hrel
    by_cases hlt : j < ts.length
    · obtain ⟨x, hx⟩ : ∃ x, ts[j]? = some x := ⟨_, List.getElem?_eq_getElem hlt⟩
      have hsx := HTS.out x (List.mem_of_getElem? hx)
      obtain ⟨ad, A3, c3, rfl, y0, y1, y2, i2, l2⟩ := (HT.out.below HW.out).at hx
      have HA := Aside0.mk (pathsL_take hx)
      obtain ⟨k, t, p⟩ := x
      simp only at y0 y1 y2 i2 l2
      have hb1 := below_alloc (Below.refl wr.heap.size wr) (.cells #[.int .u8 k, .string (bs t), .slice A3 p.length c3] 110)
      have BK := blk_new wr (.cells #[.int .u8 k, .string (bs t), .slice A3 p.length c3] 110)
      have HW2 := Aside0.mk (below_step HW.out hb1)
      have HR2 := Aside0.mk (Kd.R_below HR.out hb1)
      have HI := Aside0.mk (Kd.C_below i2 hb1)
      have HSX := Aside0.mk hsx
      clear hx hsx i2 HR HW hb1
      go_upto_region 6 with (fail)
      clear y0 y1 y2
      generalize wr.alloc (.cells #[.int .u8 k, .string (bs t), .slice A3 p.length c3] 110) = W2 at BK HW2 HR2 HI ⊢
      generalize wr.heap.size = g at BK ⊢
      obtain ⟨m0, m1, m2, -⟩ := cells_3 BK
      by_cases hp : p.length = 0
      · have hpe : p.isEmpty = true := by cases p with | nil => rfl | cons => simp at hp
        have HX2 : Aside0 (xs = (pathsL (ts.take (j + 1))).map bs) := ⟨by rw [HA.out]; unfold pjoin; rw [hpe]; simpa using HX.out⟩
        have hd : decide ((0 : Int) < (p.length : Int)) = false := by rw [decide_eq_false_iff_not]; omega
        clear HX HA
        go_wp2
        go_roundw
        case rel => exact ⟨j + 1, xs, _, rfl, by simp, by omega, by omega, HR2, HX2, HW2⟩
        case measure => simp [intOf]; omega
      · have hpe : p.isEmpty = false := by cases p with | nil => simp at hp | cons => rfl
        have hd : decide ((0 : Int) < (p.length : Int)) = true := by rw [decide_eq_true_eq]; omega
        have hj2 := joinP2_any A3 c3 p W2 HI.out l2 (by omega) HSX.out.2.2.1 HSX.out.2.2.2
        clear BK
        go_wp2_with fail
        refine hj2.mono ?_
        rintro e w3 ⟨rfl, hb3⟩
        generalize htj : bs (Lib.join p [46]) = tj
        have HW3 := Aside0.mk (below_step HW2.out hb3)
        have HR3 := Aside0.mk (Kd.R_below HR2.out hb3)
        clear hj2 hb3 m0 m1 m2
        go_wp2_with (at_builtin; go_loud (refine Kd.R_append Kd.string w1.heap.size rfl _ _ 25 9 _ 16 rfl Tryz.underlying25 info_str rfl (by decide) (by decide) u6 xs tj [.string tj] (fun _ => True) (fun _ => False) (by rfl) (by rfl) ?_ (fun _ hk => hk.elim) (fun _ _ => trivial) HR3.out HW3.out HW3.out.size (le16 (by omega)) ?_); (exact rfl); (intro v4 w4 hR4 hB4 hg4 hat4))
        have HX2 : Aside0 (xs ++ [tj] = (pathsL (ts.take (j + 1))).map bs) := ⟨by rw [HA.out, HX.out, ← htj]; unfold pjoin; rw [hpe]; simp⟩
        have HR4 := Aside0.mk hR4
        have HW4 := Aside0.mk hB4
        clear hR4 hB4 hg4 hat4 HX HA
        go_wp2
        go_roundw
        case rel => exact ⟨j + 1, xs ++ [tj], _, rfl, by simp, by omega, by simp; omega, HR4, HX2, HW4⟩
        case measure => simp [intOf]; omega
    · obtain rfl : j = ts.length := by omega
      have hx := HX.out
      rw [List.take_length] at hx
      obtain ⟨Ap, cp, rfl, hle, hC⟩ := Kd.R_reads HR.out
      have hlen : xs.length = (pathsL ts).length := by rw [hx, List.length_map]
      go_wp2
      go_ret2
      refine ⟨Ap, cp, pathsL ts, by simp [hlen], ⟨by rw [← hx, ← hlen]; exact hC, by omega⟩, fun hk => by rw [HTE.out hk], by omega, below_step HB1.out HW.out⟩
end Go.Proofs.YthngelbaheankaaGreatDoor.Tpl
namespace Go.Proofs.YthngelbaheankaaGreatDoor.Tpl
open Nodes
def userS : S := [117, 115, 101, 114]
theorem join_user {p : List S} (h : Lib.join p [46] = userS) : p = [userS] := by
  match p, h with
  | [], h => cases h
  | [s], h => rw [show Lib.join [s] [46] = s by simp [Lib.join]] at h; rw [h]
  | x :: y :: r, h =>
    exfalso
    have hm : (46 : UInt8) ∈ Lib.join (x :: y :: r) [46] := by rw [Lib.join_cons]; simp [Lib.joinTail]
    rw [h] at hm
    revert hm; decide
theorem user_flat (nd : Nodes) : ∀ lv, okN nd lv = true → (∀ t ∈ nd.toks, t.p = [] ∨ t.p = [userS]) → ∀ l2 wi, ∀ x ∈ flat nd l2 wi, x.p = [] ∨ x.p = [userS] := by
  induction nd with
  | nil => intro _ _ _ _ _ x hx; cases hx
  | cons k t p a b r iha ihb ihr =>
    intro lv ho ht l2 wi x hx
    simp only [okN, Bool.and_eq_true] at ho
    obtain ⟨⟨⟨⟨_, hleaf⟩, hoa⟩, hob⟩, hor⟩ := ho
    simp only [toks, List.mem_cons, List.mem_append] at ht
    simp only [flat, List.mem_cons, List.mem_append] at hx
    have hr : ∀ u ∈ r.toks, u.p = [] ∨ u.p = [userS] := fun u hu => ht u (.inr (.inr hu))
    rcases hx with rfl | hx | hx | hx
    · exact ht _ (.inl rfl)
    · by_cases hk : k = 3 ∨ k = 5
      · refine iha _ hoa (fun u hu => ht u (.inr (.inl ?_))) _ _ x hx
        rw [if_pos hk]
        exact List.mem_append_left _ hu
      · have h0 : a.len = 0 := by
          unfold leafP at hleaf
          simp only [not_or] at hk
          by_cases h1 : k = 1
          · rw [if_pos h1] at hleaf; simp at hleaf; omega
          · rw [if_neg h1] at hleaf
            by_cases h2 : k = 2
            · rw [if_pos h2] at hleaf; simp at hleaf; exact hleaf.1.1
            · rw [if_neg h2, if_neg hk.2, if_neg hk.1] at hleaf; cases hleaf
        cases a with
        | nil => cases hx
        | cons => simp [len] at h0
    · by_cases hk : k = 3 ∨ k = 5
      · cases hb : b.isNil with
        | true =>
          cases b with
          | nil => cases hx
          | cons => simp [isNil] at hb
        | false =>
          refine ihb _ hob (fun u hu => ht u (.inr (.inl ?_))) _ _ x hx
          rw [if_pos hk, hb]
          simp [hu]
      · have h0 : b.len = 0 := by
          unfold leafP at hleaf
          simp only [not_or] at hk
          by_cases h1 : k = 1
          · rw [if_pos h1] at hleaf; simp at hleaf; omega
          · rw [if_neg h1] at hleaf
            by_cases h2 : k = 2
            · rw [if_pos h2] at hleaf; simp at hleaf; exact hleaf.1.2
            · rw [if_neg h2, if_neg hk.2, if_neg hk.1] at hleaf; cases hleaf
        cases b with
        | nil => cases hx
        | cons => simp [len] at h0
    · exact ihr _ hor hr _ _ x hx
theorem user_src {s : S} {nd : Nodes} (h : parseS s = .ok nd) (hc : nd.chk = true) (hu : ∀ q ∈ pathsL nd.toks, q = userS) : srcP s = true := by
  have ht : ∀ t ∈ nd.toks, t.p = [] ∨ t.p = [userS] := by
    intro t ht
    by_cases hp : t.p.isEmpty = true
    · exact .inl (by simpa using hp)
    · refine .inr (join_user (hu _ (List.mem_filterMap.2 ⟨t, ht, ?_⟩)))
      unfold pjoin
      rw [if_neg hp]
  have hok : okN nd 8 = true := by
    have h2 := hc
    unfold chk fitsP at h2
    simp only [Bool.and_eq_true] at h2
    exact h2.1.1
  have hf := user_flat nd 8 hok ht 1 false
  have hro : ∀ y ∈ rootsP nd, y = userS := by
    intro y hy
    unfold rootsP at hy
    rw [fold_mem] at hy
    rcases hy with hy | hy
    · cases hy
    · obtain ⟨x, hx, e⟩ := List.mem_filterMap.1 hy
      rcases hf x hx with hp | hp
      · rw [hp] at e; simp [rootOf] at e
      · rw [hp] at e
        unfold rootOf at e
        simp only at e
        split at e
        · cases e
        · exact (Option.some.inj e).symm
  have hlost : lostP nd = false := by
    rw [← lost_flat nd 1 8 hok, List.any_eq_false]
    intro x hx
    rcases hf x hx with hp | hp
    · rw [hp]; simp [isThis]
    · rw [hp]; simp [isThis, userS, thisS]
  unfold srcP
  rw [h]
  have e1 : onlyP nd askedS = 0 := by
    unfold onlyP
    rw [if_pos hc, if_pos]
    rw [List.all_eq_true]
    intro y hy
    rw [hro y hy]; decide
  have e2 : thisP nd = 0 := by unfold thisP; rw [if_pos hc, hlost]; rfl
  show ((onlyP nd askedS == 0) && (thisP nd == 0)) = true
  rw [e1, e2]; rfl
def Cat.src (x : Cat) (s : S) : Cat := { x with s := s }
theorem src_ok {x : Cat} {s : S} (h : x.ok = true) : (x.src s).ok = srcP s := by
  unfold Cat.ok at h
  simp only [Bool.and_eq_true] at h
  obtain ⟨⟨⟨⟨h1, h2⟩, h3⟩, h4⟩, _⟩ := h
  show (nameP x.n && winP x.w x.b && decide (1 ≤ x.ch.length ∧ x.ch.length ≤ 4) && x.ch.all Lev.ok && srcP s) = srcP s
  rw [h1, h2, h3, h4]
  rfl
theorem ok_src {x : Cat} (h : x.ok = true) : srcP x.s = true := by
  simp only [Cat.ok, Bool.and_eq_true] at h
  exact h.2
theorem src_parse {s : S} (h : srcP s = true) : ∃ nd, parseS s = .ok nd := by
  unfold srcP at h
  cases hp : parseS s with
  | ok nd => exact ⟨nd, rfl⟩
  | error k => rw [hp] at h; cases h
theorem src_bad {s : S} {nd : Nodes} (h : parseS s = .ok nd) (hc : nd.chk = false) : srcP s = false := by
  unfold srcP onlyP
  rw [h]
  simp [hc]
end Go.Proofs.YthngelbaheankaaGreatDoor.Tpl
namespace Go.Proofs.YthngelbaheankaaGreatDoor.Tpl
open Go.RowKit Go.Proofs Go.Proofs.YthngelbaheankaaGreatDoor.PB Go.Proofs.YthngelbaheankaaGreatDoor.Short Go.Proofs.YthngelbaheankaaGreatDoorW.PrintWords Go.Proofs.YthngelbaheankaaGreatDoorW.PrintLast Go.Proofs.YthngelbaheankaaGreatDoorW.PrintMore Nodes
set_option maxHeartbeats 8000000 in
set_option maxRecDepth 100000 in
theorem csource_walk (x : Cat) (A : Option Addr) (c : Nat) (a : ByteArray) (w : World) (hG : GlobC w) (hs : x.sm) (hR : RdL w A c x.ch) (ha : a.size ≤ 1048576) :
    Calls Tryz.prog 8 #[catV x A c, .string a] w fun e w' => e = .returned (.bool true) ∧ Below w.heap.size w w' := by
  obtain ⟨o, rfl⟩ : ∃ o, bs o = a := ⟨a.data.toList, by cases a; simp [bs]⟩
  rw [bs_size] at ha
  have hb1 := below_alloc (Below.refl w.heap.size w) (catO x A c)
  have BK := blk_new w (catO x A c)
  have HG := Aside0.mk (hG.below hb1)
  have HR := Aside0.mk (hR.below hb1)
  have HB := Aside0.mk hb1
  have HS := Aside0.mk hs
  clear hG hR hb1 hs
  go_enter Tryz.func8, Tryz.ntmps8
  go_upto_region 1 with (fail)
  generalize w.alloc (catO x A c) = W at BK HG HB HR ⊢
  obtain ⟨b1, hb1⟩ : ∃ b, w.heap.size = b := ⟨_, rfl⟩
  rw [hb1] at BK ⊢
  clear hb1
  have HBK := Aside0.mk BK
  clear BK
  go_wp2_with fail
  refine (lives18_any W HG.out).mono ?_
  rintro e W1 ⟨rfl, hb⟩
  have BK1 := Aside0.mk (blk_below HBK.out hb)
  have HB1 := Aside0.mk (below_step HB.out hb)
  have HR1 := Aside0.mk (HR.out.below hb)
  have HG1 := Aside0.mk (HG.out.below hb)
  clear hb HBK HB HR HG
  obtain ⟨y0, y1, y2, y3, y4, y5, -⟩ := cells_6 BK1.out
  have h1 := ccheck_any x A c W1 HG1.out HS.out HR1.out
  obtain ⟨ok, hok⟩ : ∃ q, x.ok = q := ⟨_, rfl⟩
  rw [hok] at h1
  have HOK := Aside0.mk hok
  clear hok
  go_wp2_with fail
  refine h1.mono ?_
  rintro e W2 ⟨rfl, hb⟩
  have BK2 := Aside0.mk (blk_below BK1.out hb)
  have HB2 := Aside0.mk (below_step HB1.out hb)
  have HR2 := Aside0.mk (HR1.out.below hb)
  have HG2 := Aside0.mk (HG1.out.below hb)
  clear hb h1 BK1 HB1 HR1 HG1 y0 y1 y2 y3 y4 y5
  cases ok with
  | false =>
    go_wp2
    go_ret
    exact ⟨rfl, HB2.out⟩
  | true =>
    obtain ⟨y0, y1, y2, y3, y4, y5, -⟩ := cells_6 BK2.out
    have h1 := parse_any x.s HS.out.2.2 W2 HG2.out.glob
    obtain ⟨nx, hnx⟩ := src_parse (ok_src HOK.out)
    go_wp2_with fail
    refine h1.mono ?_
    intro e W3 hP
    obtain ⟨hb, nd, y, An, cn, rfl, hRn, -, -, -, hy⟩ := parse_alike hP
    obtain ⟨rfl, hnd⟩ : y = 0 ∧ parseS x.s = .ok nd := by
      rcases hy with hy | ⟨_, hy⟩
      · exact hy
      · rw [hnx] at hy; cases hy
    have BK3 := Aside0.mk (blk_below BK2.out hb)
    have HB3 := Aside0.mk (below_step HB2.out hb)
    have HR3 := Aside0.mk (HR2.out.below hb)
    have HG3 := Aside0.mk (HG2.out.below hb)
    clear hb h1 hP hy hnx hnd hRn BK2 HB2 HR2 HG2 y0 y1 y2 y3 y4 y5
    have h1 := parse_any o ha W3 HG3.out.glob
    go_wp2_with fail
    refine h1.mono ?_
    intro e W4 hP
    obtain ⟨hb, np, yp, Ap, cp, rfl, hRp, hsm, hlp, hcp, hy⟩ := parse_alike hP
    have BK4 := Aside0.mk (blk_below BK3.out hb)
    have HB4 := Aside0.mk (below_step HB3.out hb)
    have HR4 := Aside0.mk (HR3.out.below hb)
    have HG4 := Aside0.mk (HG3.out.below hb)
    have HY := Aside0.mk hy
    have h2 := paths2_any np Ap cp W4 HG4.out.glob hsm hRp hlp hcp
    clear hb h1 hP hy hRp BK3 HB3 HR3 HG3
    go_wp2_with fail
    refine h2.mono ?_
    rintro e W5 ⟨Aq, cq, ps, rfl, hRps, hps, hpl, hb⟩
    have HRps := Aside0.mk hRps
    have HPS := Aside0.mk hps
    have BK5 := Aside0.mk (blk_below BK4.out hb)
    have HB5 := Aside0.mk (below_step HB4.out hb)
    have HR5 := Aside0.mk (HR4.out.below hb)
    have HG5 := Aside0.mk (HG4.out.below hb)
    clear hb h2 hRps hps BK4 HB4 HR4 HG4
    obtain ⟨y0, y1, y2, y3, y4, y5, -⟩ := cells_6 BK5.out
    go_upto_region 9 with (fail)
    have hba := below_alloc (Below.refl W5.heap.size W5) (catO x A c)
    have BD := blk_new W5 (catO x A c)
    have HBA := Aside0.mk hba
    clear hba y0 y1 y2 y3 y4 y5
    obtain ⟨bd, hbd⟩ : ∃ b, W5.heap.size = b := ⟨_, rfl⟩
    have Hbd := Aside0.mk hbd
    generalize W5.alloc (catO x A c) = W6 at BD HBA ⊢
    rw [hbd] at BD ⊢
    clear hbd
    obtain ⟨u0, u1, u2, u3, u4, u5, v0, v1, v2, v3, v4, v5⟩ := cells_6 BD
    go_upto_region 10 with (fail)
    have BD2 : (W6.setCell ⟨bd, 5, none⟩ (.string (bs o))).heap[bd]? = some (catO (x.src o) A c) := blk_put BD 5 (.string (bs o)) rfl
    have hbs : Below W5.heap.size W5 (W6.setCell ⟨bd, 5, none⟩ (.string (bs o))) := below_set HBA.out (Nat.le_of_eq Hbd.out)
    clear u0 u1 u2 u3 u4 u5 v0 v1 v2 v3 v4 v5 BD HBA Hbd
    generalize W6.setCell ⟨bd, 5, none⟩ (.string (bs o)) = W7 at BD2 hbs ⊢
    have HBD := Aside0.mk BD2
    have HB7 := Aside0.mk (below_step HB5.out hbs)
    have HR7 := Aside0.mk (HR5.out.below hbs)
    have HG7 := Aside0.mk (HG5.out.below hbs)
    have HP7 := Aside0.mk (RdS.below HRps.out hbs)
    clear BD2 hbs BK5 HB5 HR5 HG5 HRps
    have hsd : (x.src o).sm := ⟨HS.out.1, HS.out.2.1, ha⟩
    have hokd : (x.src o).ok = srcP o := src_ok HOK.out
    have hcd : ∀ W, Below W7.heap.size W7 W → Calls Tryz.prog 20 #[catV (x.src o) A c] W fun e w' => e = .returned (.int .i64 (if srcP o = true then 0 else 2)) ∧ Below W.heap.size W w' := by
      intro W hW
      have h := ccheck_any (x.src o) A c W (HG7.out.below hW) hsd (HR7.out.below hW)
      rw [hokd] at h
      exact h
    have HCD := Aside0.mk hcd
    clear hcd hokd hsd
    obtain ⟨y0, y1, y2, y3, y4, y5, -⟩ := cells_6 HBD.out
    rcases HY.out with ⟨rfl, hpn⟩ | ⟨hyp, hpn⟩
    · cases hck : np.chk with
      | false =>
        have hsb := src_bad hpn hck
        have h3 := HCD.out W7 (Below.refl _ _)
        rw [hsb] at h3
        clear hpn hck hsb HCD HY HPS
        go_wp2_with fail
        refine h3.mono ?_
        rintro e W8 ⟨rfl, hb⟩
        have HB8 := Aside0.mk (below_step HB7.out hb)
        clear h3 hb
        go_wp2
        go_ret
        exact ⟨rfl, HB8.out⟩
      | true =>
        have hpe := HPS.out hck
        have HPN := Aside0.mk hpn
        have HCK := Aside0.mk hck
        have HPE := Aside0.mk hpe
        clear hpn hck hpe HPS HY y0 y1 y2 y3 y4 y5
        go_wp2
        go_loop [51] (fun v => ∃ j : Nat, v = .int .i64 j ∧ j ≤ ps.length ∧ Aside0 (∀ q ∈ ps.take j, q = userS)) (fun v => ps.length - (intOf v).toNat)
        case atStart => exact ⟨0, rfl, Nat.zero_le _, ⟨fun q hq => by simp at hq⟩⟩
        case round =>
          obtain ⟨j, rfl, hj, HA⟩ := hrel
          by_cases hlt : j < ps.length
          · obtain ⟨bq, oq, rfl, hcl⟩ := cellS HP7.out j hlt
            have hgd : ps[j]? = some (ps.getD j []) := by rw [List.getD_eq_getElem?_getD, List.getElem?_eq_getElem hlt]; rfl
            have e2 : ((bs (ps.getD j [])).toList == [117, 115, 101, 114]) = (ps.getD j [] == userS) := by rw [bs_list]; rfl
            have HGd := Aside0.mk hgd
            generalize ps.getD j [] = s1 at hcl e2 HGd
            by_cases hu : s1 = userS
            · rw [beq_iff_eq.2 hu] at e2
              have HA2 : Aside0 (∀ q ∈ ps.take (j + 1), q = userS) := ⟨fun q hq => by
                rw [List.take_add_one, HGd.out, Option.toList_some, List.mem_append, List.mem_singleton] at hq
                rcases hq with hq | rfl
                · exact HA.out q hq
                · exact hu⟩
              clear hgd HGd hu
              go_wp2
              go_round
              case rel => exact ⟨j + 1, by go_num, by omega, HA2⟩
              case measure => simp [intOf]; omega
            · rw [beq_eq_false_iff_ne.2 hu] at e2
              clear hgd HGd hu
              go_wp2
              go_ret
              exact ⟨rfl, HB7.out⟩
          · obtain rfl : j = ps.length := by omega
            have hall := HA.out
            rw [List.take_length, HPE.out] at hall
            have hsu := user_src HPN.out HCK.out hall
            have h3 := HCD.out W7 (Below.refl _ _)
            rw [hsu] at h3
            obtain ⟨y0, y1, y2, y3, y4, y5, -⟩ := cells_6 HBD.out
            clear hall hsu HCD HA
            go_wp2_with fail
            refine h3.mono ?_
            rintro e W8 ⟨rfl, hb⟩
            have HB8 := Aside0.mk (below_step HB7.out hb)
            clear h3 hb
            go_wp2
            go_ret
            exact ⟨rfl, HB8.out⟩
    · have hsb : srcP o = false := by unfold srcP; rw [hpn]
      have hyb : (yp == 0) = false := beq_eq_false_iff_ne.2 hyp
      have h3 := HCD.out W7 (Below.refl _ _)
      rw [hsb] at h3
      clear hpn hsb HCD HY HPS
      cases hck : np.chk
      all_goals
        clear hck
        go_wp2_with fail
        refine h3.mono ?_
        rintro e W8 ⟨rfl, hb⟩
        have HB8 := Aside0.mk (below_step HB7.out hb)
        clear h3 hb
        go_wp2
        go_ret
        exact ⟨rfl, HB8.out⟩
end Go.Proofs.YthngelbaheankaaGreatDoor.Tpl
namespace Go.Proofs.YthngelbaheankaaGreatDoor.Tpl
open Go.RowKit Go.ChangeShapes Go.WideShapes Go.Proofs.YthngelbaheankaaGreatDoor.PB Go.Proofs.YthngelbaheankaaGreatDoorW.PrintWords
section
variable {H : Type} {enc : TypeId × Value → H} {W : World}
theorem bulk_strs (ss : List ByteArray) : (ss.length ≤ Rows.uptoBulkAll (strs (H := H) ss)) ∧ ∀ s ∈ ss, s.size ≤ Rows.uptoBulkAll (strs (H := H) ss) := by
  induction ss with
  | nil => exact ⟨Nat.zero_le _, fun _ h => by cases h⟩
  | cons s ss ih =>
    have e : Rows.uptoBulkAll (strs (H := H) (s :: ss)) = (s.size + 1) + Rows.uptoBulkAll (strs (H := H) ss) := by
      show Rows.uptoBulkAll (DataW.lit (.string s.data.toList) :: strs ss) = _
      simp only [Rows.uptoBulkAll, Rows.uptoBulk, Array.length_toList]
      rfl
    rw [e]
    refine ⟨by simp only [List.length_cons]; omega, fun x hx => ?_⟩
    rcases List.mem_cons.1 hx with rfl | hx
    · omega
    · have := ih.2 x hx; omega
theorem cells_strs : Tryz.prog.cellsOf 9 = 1 := by kernel_rfl
theorem cells_node : Tryz.prog.cellsOf 116 = 5 := by kernel_rfl
theorem cells_kind : Tryz.prog.cellsOf 108 = 1 := by kernel_rfl
theorem cells_names : Tryz.prog.cellsOf 25 = 1 := by kernel_rfl
theorem cells_nodes : Tryz.prog.cellsOf 22 = 1 := by kernel_rfl
theorem under_kind : Tryz.prog.underlying 108 = some (.int .u8) := by kernel_rfl
theorem bs_toList (s : ByteArray) : bs s.data.toList = s := by cases s; simp [bs]
theorem open_names {fuel : Nat} {cs : List Value} {x : DataW H × List MemPlace} (h : DataW.trod enc Tryz.prog W 0 (fun _ => true) true fuel 25 cs = some x) :
    ∃ A c names, cs = [.slice A names.length c] ∧ RdS W A c names ∧ names.length ≤ Rows.uptoBulk x.1 ∧ ∀ s ∈ names, s.length ≤ Rows.uptoBulk x.1 := by
  rcases open_strings Tryz.underlying25 Tryz.underlying9 cells_strs h with ⟨rfl, rfl⟩ | ⟨a, len, cap, ss, rfl, _, hl, hm, hz, rfl, hcell, hsz⟩
  · exact ⟨none, 0, [], rfl, ⟨⟨rfl, Nat.zero_le _, fun h => absurd h (by simp)⟩, Nat.le_refl _⟩, Nat.zero_le _, fun _ h => by cases h⟩
  · have hz' : ss.length = cap := by simpa using hz
    have hlen : (ss.take len).length = len := by simp; omega
    obtain ⟨b1, b2⟩ := bulk_strs (H := H) (ss.take len)
    have hb : Rows.uptoBulkAll (strs (H := H) (ss.take len)) ≤ Rows.uptoBulk (.slice (strs (H := H) (ss.take len)) (strs (ss.drop len))) := by simp only [Rows.uptoBulk]; omega
    have hmap : ((ss.take len).map (fun s => s.data.toList)).map bs = ss.take len := by
      rw [List.map_map]
      conv => rhs; rw [← List.map_id (ss.take len)]
      exact List.map_congr_left fun s _ => bs_toList s
    refine ⟨some a, cap, (ss.take len).map (fun s => s.data.toList), by rw [List.length_map, hlen], ⟨?_, by rw [List.length_map, hlen]; exact hl⟩, by simp only [List.length_map]; omega, ?_⟩
    · rw [hmap]
      refine ⟨by simp, by simp only [List.length_map, hlen]; unfold maxLen at hm; omega, fun _ => ⟨a, rfl, fun j p hp => ⟨[.string p], rfl, rfl, fun i u hu => ?_⟩⟩⟩
      have hj : j < len := by have := (List.getElem?_eq_some_iff.1 hp).1; omega
      obtain ⟨rfl, rfl⟩ : i = 0 ∧ .string p = u := by cases i with | zero => exact ⟨rfl, by simpa using hu⟩ | succ i => simp at hu
      have hc := hcell j (by omega)
      rw [List.getElem?_take, if_pos hj] at hp
      rw [List.getD_eq_getElem?_getD, hp] at hc
      show W.cell? (a.add (j * 1 + 0)) = _
      rw [Nat.mul_one]
      exact hc
    · intro s hs
      obtain ⟨s', hs', rfl⟩ := List.mem_map.1 hs
      have := b2 s' hs'
      show s'.data.toList.length ≤ _
      rw [Array.length_toList]
      exact Nat.le_trans (show s'.data.size ≤ _ from this) hb
theorem five {α : Type} {l : List α} (h : l.length = 5) : ∃ a b c d e, l = [a, b, c, d, e] :=
  match l, h with | [a, b, c, d, e], _ => ⟨a, b, c, d, e, rfl⟩
def Elem (W : World) (ad : Addr) (j : Nat) (y : DataW H) : Prop :=
  ∃ k t p a b, (∃ c, c.length = 5 ∧ kN.K W ⟨(k : Nat), bs t, p.map bs, Nodes.of a, Nodes.of b⟩ c ∧ ∀ i u, c[i]? = some u → W.cell? (ad.add (j * 5 + i)) = some u) ∧
    (Rows.uptoBulk y ≤ 1048576 → (Nodes.cons k t p a b .nil).sm) ∧ 1 + a.cnt + b.cnt ≤ Rows.uptoBulk y
theorem gather {ad : Addr} : ∀ (ys : List (DataW H)) (o : Nat), (∀ j y, ys[j]? = some y → Elem W ad (o + j) y) →
    ∃ l : Nodes, l.len = ys.length ∧ (∀ j x, l.of[j]? = some x → ∃ c, c.length = 5 ∧ kN.K W x c ∧ ∀ i u, c[i]? = some u → W.cell? (ad.add ((o + j) * 5 + i)) = some u) ∧
      (Rows.uptoBulkAll ys ≤ 1048576 → l.sm) ∧ l.cnt ≤ Rows.uptoBulkAll ys := by
  intro ys
  induction ys with
  | nil => exact fun o _ => ⟨.nil, rfl, fun j x h => by simp [Nodes.of] at h, fun _ => trivial, Nat.zero_le _⟩
  | cons y ys ih =>
    intro o h
    obtain ⟨r, h1, h2, h3, h4⟩ := ih (o + 1) (fun j z hz => by have := h (j + 1) z (by simpa using hz); rwa [show o + (j + 1) = o + 1 + j by omega] at this)
    obtain ⟨k, t, p, a, b, hc, hs, hn⟩ := h 0 y rfl
    refine ⟨.cons k t p a b r, by simp [Nodes.len, h1], ?_, ?_, ?_⟩
    · intro j x hx
      cases j with
      | zero =>
        have : (⟨(k : Nat), bs t, p.map bs, Nodes.of a, Nodes.of b⟩ : SN) = x := by simpa [Nodes.of] using hx
        subst this
        exact hc
      | succ j =>
        have := h2 j x (by simpa [Nodes.of] using hx)
        rwa [show o + 1 + j = o + (j + 1) by omega] at this
    · intro hb
      simp only [Rows.uptoBulkAll] at hb
      obtain ⟨g1, g2, g3, g4, g5, g6, g7, g8, _⟩ := hs (by omega)
      exact ⟨g1, g2, g3, g4, g5, g6, g7, g8, h3 (by omega)⟩
    · simp only [Rows.uptoBulkAll, Nodes.cnt]
      omega
theorem cnt_len (l : Nodes) : l.len ≤ l.cnt := by
  induction l with
  | nil => exact Nat.le_refl _
  | cons k t p a b r _ _ ih => simp only [Nodes.len, Nodes.cnt]; omega
theorem open_nodes : ∀ (fuel : Nat) (cs : List Value) (x : DataW H × List MemPlace), DataW.trod enc Tryz.prog W 0 (fun _ => true) true fuel 22 cs = some x →
    ∃ A c l, cs = [.slice A (Nodes.len l) c] ∧ Nodes.Rd W A c l ∧ (Rows.uptoBulk x.1 ≤ 1048576 → l.sm) ∧ l.cnt + 1 ≤ Rows.uptoBulk x.1 := by
  intro fuel
  induction fuel using Nat.strongRecOn with
  | ind fuel ih =>
  intro cs x h
  rcases DataW.trod_slice Tryz.underlying22 h with ⟨rfl, rfl⟩ | ⟨ad, len, cap, elems, rest, n, rfl, rfl, rfl, _, hl, hm, hlen, hel, _, _⟩
  · exact ⟨none, 0, .nil, rfl, ⟨⟨rfl, Nat.zero_le _, fun h => absurd h (by simp [Nodes.len])⟩, Nat.le_refl _⟩, fun _ => trivial, Nat.le_refl _⟩
  · have each : ∀ j y, (elems.map (·.1))[j]? = some y → Elem W ad (0 + j) y := by
      intro j y hy
      rw [List.getElem?_map] at hy
      obtain ⟨z, hz, rfl⟩ := Option.map_eq_some_iff.1 hy
      have hj : j < len := by have := (List.getElem?_eq_some_iff.1 hz).1; omega
      have hb := hel j hj
      rw [hz, cells_node, Option.bind_eq_some_iff] at hb
      obtain ⟨c, hc, hd⟩ := hb
      obtain ⟨_, hc5, hcell⟩ := World.cells?_some hc
      obtain ⟨xs, m, rfl, rfl, _, hxs, hf⟩ := DataW.trod_struct Tryz.underlying116 hd
      obtain ⟨y0, y1, y2, y3, y4, rfl⟩ := five hxs
      obtain ⟨v0, v1, v2, v3, v4, rfl⟩ := five hc5
      have f0 := hf 0 _ rfl
      have f1 := hf 1 _ rfl
      have f2 := hf 2 _ rfl
      have f3 := hf 3 _ rfl
      have f4 := hf 4 _ rfl
      simp only [List.getElem_toArray, List.getElem_cons_zero, List.getElem_cons_succ, cells_kind] at f0
      simp only [List.getElem_toArray, List.getElem_cons_zero, List.getElem_cons_succ, cells_strs] at f1
      simp only [List.getElem_toArray, List.getElem_cons_zero, List.getElem_cons_succ, cells_names] at f2
      simp only [List.getElem_toArray, List.getElem_cons_zero, List.getElem_cons_succ, cells_nodes] at f3 f4
      obtain ⟨k, e0, rfl, hk⟩ := DataW.trod_int under_kind f0
      obtain ⟨s, e1, rfl, hs⟩ := DataW.trod_string Tryz.underlying9 f1
      obtain ⟨A2, c2, p, e2, hp, lp, sp⟩ := open_names f2
      obtain ⟨A3, c3, a, e3, ha, sa, na⟩ := ih m (by omega) _ _ f3
      obtain ⟨A4, c4, b, e4, hb, sb, nb⟩ := ih m (by omega) _ _ f4
      simp only [List.drop, List.take, List.cons.injEq, and_true] at e0 e1 e2 e3 e4
      subst e0 e1 e2 e3 e4
      have hk' : 0 ≤ k ∧ k < 256 := by
        have h1 : IntKind.u8.min = 0 := by decide
        have h2 : IntKind.u8.max = 255 := by decide
        have := hk
        simp [Lit.wf, h1, h2] at this
        omega
      obtain ⟨k, rfl⟩ : ∃ q : Nat, k = q := ⟨k.toNat, by omega⟩
      refine ⟨k, s.data.toList, p, a, b, ⟨[.int .u8 k, .string s, .slice A2 p.length c2, .slice A3 (Nodes.len a) c3, .slice A4 (Nodes.len b) c4], rfl, ?_, fun i u hu => ?_⟩, ?_, ?_⟩
      · rw [bs_toList]
        have := k116_mk W (⟨(k : Nat), s, p.map bs, Nodes.of a, Nodes.of b⟩ : SN) (A2 := A2) (c2 := c2) (by simpa using hp.2) (by simpa using hp.1) (A3 := A3) (c3 := c3) (by simpa [Nodes.of_len] using ha.2) (by simpa [Nodes.of_len] using ha.1) (A4 := A4) (c4 := c4) (by simpa [Nodes.of_len] using hb.2) (by simpa [Nodes.of_len] using hb.1)
        simpa [Nodes.of_len] using this
      · have hi : i < 5 := by have := (List.getElem?_eq_some_iff.1 hu).1; simpa using this
        rw [Nat.zero_add, ← hu, ← hcell i hi, Go.Deep.add_add]
      · intro hbk
        simp only [List.map_cons, List.map_nil, Rows.uptoBulk, Rows.uptoBulkAll] at hbk
        refine ⟨by omega, by omega, by omega, fun q hq => ?_, ?_, ?_, sa (by omega), sb (by omega), trivial⟩
        · have := sp q hq; omega
        · have := cnt_len a; omega
        · have := cnt_len b; omega
      · simp only [List.map_cons, List.map_nil, Rows.uptoBulk, Rows.uptoBulkAll]
        omega
    obtain ⟨l, h1, h2, h3, h4⟩ := gather (elems.map (·.1)) 0 each
    have h1' : l.len = len := by rw [h1, List.length_map, hlen]
    refine ⟨some ad, cap, l, by rw [h1'], ⟨⟨Nodes.of_len l, by rw [h1']; unfold maxLen at hm; omega, fun _ => ⟨ad, rfl, fun j p hp => ?_⟩⟩, by omega⟩, ?_, ?_⟩
    · have := h2 j p hp
      rwa [Nat.zero_add] at this
    · intro hb
      simp only [Rows.uptoBulk] at hb
      exact h3 (by omega)
    · simp only [Rows.uptoBulk]
      omega
end
end Go.Proofs.YthngelbaheankaaGreatDoor.Tpl
namespace Go.Proofs.YthngelbaheankaaGreatDoor.Tpl
open Go.RowKit Go.ChangeShapes Go.WideShapes Go.Proofs.YthngelbaheankaaGreatDoor.PB Go.Proofs.YthngelbaheankaaGreatDoorW.PrintWords
section
variable {H : Type} {enc : TypeId × Value → H} {W : World}
theorem cells_lev : Tryz.prog.cellsOf 41 = 4 := by kernel_rfl
theorem cells_cat : Tryz.prog.cellsOf 37 = 6 := by kernel_rfl
theorem cells_chan : Tryz.prog.cellsOf 28 = 1 := by kernel_rfl
theorem cells_int64 : Tryz.prog.cellsOf 2 = 1 := by kernel_rfl
theorem cells_int : Tryz.prog.cellsOf 3 = 1 := by kernel_rfl
theorem cells_bool : Tryz.prog.cellsOf 4 = 1 := by kernel_rfl
theorem cells_levs : Tryz.prog.cellsOf 35 = 1 := by kernel_rfl
theorem under_chan : Tryz.prog.underlying 28 = some (.int .u8) := by kernel_rfl
theorem four {α : Type} {l : List α} (h : l.length = 4) : ∃ a b c d, l = [a, b, c, d] :=
  match l, h with | [a, b, c, d], _ => ⟨a, b, c, d, rfl⟩
theorem six {α : Type} {l : List α} (h : l.length = 6) : ∃ a b c d e f, l = [a, b, c, d, e, f] :=
  match l, h with | [a, b, c, d, e, f], _ => ⟨a, b, c, d, e, f, rfl⟩
def ElemL (W : World) (ad : Addr) (j : Nat) (y : DataW H) : Prop :=
  ∃ x : Lev, (∃ c, c.length = 4 ∧ kLv.K W x.of c ∧ ∀ q u, c[q]? = some u → W.cell? (ad.add (j * 4 + q)) = some u) ∧ 1 ≤ Rows.uptoBulk y
theorem gatherL {ad : Addr} : ∀ (ys : List (DataW H)) (o : Nat), (∀ j y, ys[j]? = some y → ElemL W ad (o + j) y) →
    ∃ l : List Lev, l.length = ys.length ∧ (∀ j x, (l.map Lev.of)[j]? = some x → ∃ c, c.length = 4 ∧ kLv.K W x c ∧ ∀ i u, c[i]? = some u → W.cell? (ad.add ((o + j) * 4 + i)) = some u) ∧ l.length ≤ Rows.uptoBulkAll ys := by
  intro ys
  induction ys with
  | nil => exact fun o _ => ⟨[], rfl, fun j x h => by simp at h, Nat.zero_le _⟩
  | cons y ys ih =>
    intro o h
    obtain ⟨r, h1, h2, h3⟩ := ih (o + 1) (fun j z hz => by have := h (j + 1) z (by simpa using hz); rwa [show o + (j + 1) = o + 1 + j by omega] at this)
    obtain ⟨x, hc, hn⟩ := h 0 y rfl
    refine ⟨x :: r, by simp [h1], ?_, ?_⟩
    · intro j z hz
      cases j with
      | zero =>
        obtain rfl : x.of = z := by simpa using hz
        exact hc
      | succ j =>
        have := h2 j z (by simpa using hz)
        rwa [show o + 1 + j = o + (j + 1) by omega] at this
    · simp only [Rows.uptoBulkAll, List.length_cons]
      omega
theorem open_levels {fuel : Nat} {cs : List Value} {x : DataW H × List MemPlace} (h : DataW.trod enc Tryz.prog W 0 (fun _ => true) true fuel 35 cs = some x) :
    ∃ A c l, cs = [.slice A (List.length l) c] ∧ RdL W A c l ∧ l.length ≤ Rows.uptoBulk x.1 := by
  rcases DataW.trod_slice Tryz.underlying35 h with ⟨rfl, rfl⟩ | ⟨ad, len, cap, elems, rest, n, rfl, rfl, rfl, _, hl, hm, hlen, hel, _, _⟩
  · exact ⟨none, 0, [], rfl, ⟨⟨rfl, Nat.zero_le _, fun h => absurd h (by simp)⟩, Nat.le_refl _⟩, Nat.zero_le _⟩
  · have each : ∀ j y, (elems.map (·.1))[j]? = some y → ElemL W ad (0 + j) y := by
      intro j y hy
      rw [List.getElem?_map] at hy
      obtain ⟨z, hz, rfl⟩ := Option.map_eq_some_iff.1 hy
      have hj : j < len := by have := (List.getElem?_eq_some_iff.1 hz).1; omega
      have hb := hel j hj
      rw [hz, cells_lev, Option.bind_eq_some_iff] at hb
      obtain ⟨c, hc, hd⟩ := hb
      obtain ⟨_, hc4, hcell⟩ := World.cells?_some hc
      obtain ⟨xs, m, rfl, rfl, _, hxs, hf⟩ := DataW.trod_struct Tryz.underlying41 hd
      have f0 := hf 0 _ rfl
      have f1 := hf 1 _ rfl
      have f2 := hf 2 _ rfl
      have f3 := hf 3 _ rfl
      simp only [List.getElem_toArray, List.getElem_cons_zero, List.getElem_cons_succ, cells_chan] at f0
      simp only [List.getElem_toArray, List.getElem_cons_zero, List.getElem_cons_succ, cells_int64] at f1
      simp only [List.getElem_toArray, List.getElem_cons_zero, List.getElem_cons_succ, cells_int] at f2
      simp only [List.getElem_toArray, List.getElem_cons_zero, List.getElem_cons_succ, cells_int64] at f3
      obtain ⟨y0, y1, y2, y3, rfl⟩ := four hxs
      obtain ⟨v0, v1, v2, v3, rfl⟩ := four hc4
      simp only [List.getElem?_cons_zero, List.getElem?_cons_succ] at f0 f1 f2 f3
      obtain ⟨k, e0, rfl, hk⟩ := DataW.trod_int under_chan f0
      obtain ⟨a, e1, rfl, ha⟩ := DataW.trod_int Tryz.underlying2 f1
      obtain ⟨b, e2, rfl, hb⟩ := DataW.trod_int Tryz.underlying3 f2
      obtain ⟨d, e3, rfl, hd'⟩ := DataW.trod_int Tryz.underlying2 f3
      simp only [List.drop, List.take, List.cons.injEq, and_true] at e0 e1 e2 e3
      subst e0 e1 e2 e3
      have hk' : 0 ≤ k := by
        have h1 : IntKind.u8.min = 0 := by decide
        have h2 : IntKind.u8.max = 255 := by decide
        have := hk
        simp [Lit.wf, h1, h2] at this
        omega
      obtain ⟨k, rfl⟩ : ∃ q : Nat, k = q := ⟨k.toNat, by omega⟩
      refine ⟨⟨k, a, b, d⟩, ⟨_, rfl, k41_mk W (⟨k, a, b, d⟩ : Lev).of, fun q u hu => ?_⟩, ?_⟩
      · have hi : q < 4 := by have := (List.getElem?_eq_some_iff.1 hu).1; simpa using this
        have hu' : ([.int .u8 k, .int .i64 a, .int .i64 b, .int .i64 d] : List Value)[q]? = some u := hu
        rw [Nat.zero_add, ← hu', ← hcell q hi, Go.Deep.add_add]
      · simp only [Rows.uptoBulk]
        omega
    obtain ⟨l, h1, h2, h3⟩ := gatherL (elems.map (·.1)) 0 each
    have h1' : l.length = len := by rw [h1, List.length_map, hlen]
    refine ⟨some ad, cap, l, by rw [h1'], ⟨⟨by simp, by rw [h1']; unfold maxLen at hm; omega, fun _ => ⟨ad, rfl, fun j p hp => ?_⟩⟩, by omega⟩, ?_⟩
    · have := h2 j p hp
      rwa [Nat.zero_add] at this
    · simp only [Rows.uptoBulk]
      omega
theorem open_cat6 (m : Nat) (xs : List (DataW H × List MemPlace)) (c : List Value) (hxs : xs.length = 6) (hc6 : c.length = 6)
    (f0 : DataW.trod enc Tryz.prog W 0 (fun _ => true) true m 9 ((c.drop 0).take 1) = xs[0]?) (f1 : DataW.trod enc Tryz.prog W 0 (fun _ => true) true m 4 ((c.drop 1).take 1) = xs[1]?) (f2 : DataW.trod enc Tryz.prog W 0 (fun _ => true) true m 2 ((c.drop 2).take 1) = xs[2]?)
    (f3 : DataW.trod enc Tryz.prog W 0 (fun _ => true) true m 3 ((c.drop 3).take 1) = xs[3]?) (f4 : DataW.trod enc Tryz.prog W 0 (fun _ => true) true m 35 ((c.drop 4).take 1) = xs[4]?) (f5 : DataW.trod enc Tryz.prog W 0 (fun _ => true) true m 9 ((c.drop 5).take 1) = xs[5]?) :
    ∃ (x : Cat) (A : Option Addr) (cc : Nat), c = [.string (bs x.n), .bool x.cr, .int .i64 x.w, .int .i64 x.b, .slice A x.ch.length cc, .string (bs x.s)] ∧ RdL W A cc x.ch ∧ (Rows.uptoBulkAll (xs.map (·.1)) ≤ 1048576 → x.sm) := by
  obtain ⟨y0, y1, y2, y3, y4, y5, rfl⟩ := six hxs
  obtain ⟨v0, v1, v2, v3, v4, v5, rfl⟩ := six hc6
  simp only [List.getElem?_cons_zero, List.getElem?_cons_succ] at f0 f1 f2 f3 f4 f5
  obtain ⟨n, e0, rfl, hn⟩ := DataW.trod_string Tryz.underlying9 f0
  obtain ⟨cr, e1, rfl⟩ := DataW.trod_bool Tryz.underlying4 f1
  obtain ⟨a, e2, rfl, ha⟩ := DataW.trod_int Tryz.underlying2 f2
  obtain ⟨b, e3, rfl, hb⟩ := DataW.trod_int Tryz.underlying3 f3
  obtain ⟨A4, c4, ch, e4, hR, hl⟩ := open_levels f4
  obtain ⟨s, e5, rfl, hs⟩ := DataW.trod_string Tryz.underlying9 f5
  simp only [List.drop, List.take, List.cons.injEq, and_true] at e0 e1 e2 e3 e4 e5
  subst e0 e1 e2 e3 e4 e5
  refine ⟨⟨n.data.toList, cr, a, b, ch, s.data.toList⟩, A4, c4, ?_, hR, ?_⟩
  · simp only [bs_toList]
  · intro hbk
    simp only [List.map_cons, List.map_nil, Rows.uptoBulk, Rows.uptoBulkAll] at hbk
    refine ⟨by show n.data.toList.length ≤ 1048576; omega, by show ch.length ≤ 1048576; omega, by show s.data.toList.length ≤ 1048576; omega⟩
end
end Go.Proofs.YthngelbaheankaaGreatDoor.Tpl
