/- Part 2 of the proof (texts of this claim, merged in build order; what the claim does not need has been left out). -/
import Derived.Deep.Slices
import Derived.Test.YtniibpndgcndbaaGreatDoorRL1
import Derived.Deep.QuietTactic
import Derived.Deep.RegionHeld3
import Derived.KernelRfl
import Derived.LaidEql
import Derived.LaidHandle
import Derived.LaidMore
import Derived.Lib.AppendIntMem
import Derived.Lib.Hide
import Derived.Lib.IfaceEq
import Derived.Lib.ItoaLen
import Derived.Lib.LaidTab
import Derived.OpenShut
import Derived.Outline
import Derived.RowKitTokens
import Derived.Shelf.Spec.SearchS
import Derived.Shelf.Vars
import Derived.SliceStrings
import Derived.Stop.Asserts
import Derived.Stop.LaidErr
import Derived.Test.YtniibpndgcndbaaGreatDoorRows
import Derived.WalkKit
set_option linter.unusedVariables false
set_option linter.unusedSimpArgs false
namespace Go.Proofs.YtniibpndgcndbaaGreatDoor.Tpl
open Go.RowKit Go.Proofs Go.Proofs.YtniibpndgcndbaaGreatDoor.PB Go.Proofs.YtniibpndgcndbaaGreatDoor.Short Go.Proofs.YtniibpndgcndbaaGreatDoorW.PrintWords Go.Proofs.YtniibpndgcndbaaGreatDoorW.PrintLast Go.Proofs.YtniibpndgcndbaaGreatDoorW.PrintMore Vals
theorem nan1 (x : ByteArray) (w : World) : Calls Tryz.prog 153 #[.string x] w fun e w' => e = .returned (.bool false) ∧ w' = w := by
  go_enter Tryz.func153, Tryz.ntmps153
  go_wp2
  go_ret
  exact ⟨by simp, rfl⟩
theorem nan2 (x : ByteArray) (w : World) : Calls Tryz.prog 164 #[.string x] w fun e w' => e = .returned (.bool false) ∧ w' = w := by
  go_enter Tryz.func164, Tryz.ntmps164
  go_wp2
  go_ret
  exact ⟨by simp, rfl⟩
theorem less_any (x y : ByteArray) (w : World) : Calls Tryz.prog 106 #[.string x, .string y] w fun e w' => e = .returned (.bool (Op.bytesLess x.toList y.toList)) ∧ w' = w := by
  go_enter Tryz.func106, Tryz.ntmps106
  go_wp2_with (go_at_call 153; refine (nan1 _ _).mono ?_; rintro e w' ⟨rfl, rfl⟩)
  go_ret
  exact ⟨rfl, rfl⟩
set_option maxHeartbeats 4000000 in
set_option maxRecDepth 1000000 in
theorem bs_row (b off n c : Nat) (Sx : Nat → ByteArray) (x : ByteArray) (w : World) (hbig : n < 4611686018427387904) (hc : ∀ j, j < n → w.cell? ⟨b, off + j, none⟩ = some (.string (Sx j))) :
    Calls Tryz.prog 132 #[.slice (some ⟨b, off, none⟩) n c, .string x] w fun e w' =>
      e = .returned (.tuple #[.int .i64 (Lib.bsGo (fun t => Op.bytesLess (Sx t).toList x.toList) n 0 n : Nat), .bool (decide (Lib.bsGo (fun t => Op.bytesLess (Sx t).toList x.toList) n 0 n < n ∧ Sx (Lib.bsGo (fun t => Op.bytesLess (Sx t).toList x.toList) n 0 n) = x))]) ∧ ∃ q, w' = w.drewN q := by
  obtain ⟨I, hI⟩ : ∃ I, Lib.bsGo (fun t => Op.bytesLess (Sx t).toList x.toList) n 0 n = I := ⟨_, rfl⟩
  rw [hI]
  go_enter Tryz.func132, Tryz.ntmps132
  go_wp2
  go_loopg [7, 8] n (fun g s7 s8 wr => ∃ lo hi q : Nat, s7 = .int .i64 lo ∧ s8 = .int .i64 hi ∧ lo ≤ hi ∧ hi ≤ n ∧ hi - lo ≤ g ∧ wr = w.drewN q ∧ Lib.bsGo (fun t => Op.bytesLess (Sx t).toList x.toList) g lo hi = I)
  case atStart => exact ⟨0, n, 0, rfl, rfl, Nat.zero_le _, Nat.le_refl _, by omega, rfl, hI⟩
  case round =>
    obtain ⟨lo, hi, q, rfl, rfl, hlh, hin, hg, rfl, hb⟩ := hrel
    by_cases hlt : lo < hi
    · have cm : w.cell? ⟨b, off + (lo + hi) / 2, none⟩ = some (.string (Sx ((lo + hi) / 2))) := hc _ (by omega)
      clear hc
      obtain ⟨g', rfl⟩ : ∃ g', gk = g' + 1 := ⟨gk - 1, by omega⟩
      simp only [Lib.bsGo, hlt, if_true] at hb
      obtain ⟨y, hy⟩ : ∃ y, Sx ((lo + hi) / 2) = y := ⟨_, rfl⟩
      rw [hy] at cm
      simp only [hy] at hb
      cases hyx : Op.bytesLess y.toList x.toList <;> simp only [hyx, if_true, Bool.false_eq_true, if_false] at hb
      · go_wp2_with (first | (go_at_call 106; refine (less_any _ _ _).mono ?_; rintro e w' ⟨rfl, rfl⟩) | (go_at_call 164; refine (nan2 _ _).mono ?_; rintro e w' ⟨rfl, rfl⟩))
        go_roundg ((lo + hi) / 2 - lo)
        case measure => omega
        case rel => exact ⟨lo, (lo + hi) / 2, _, rfl, by rw [show ((lo : Int) + (hi : Int)) / 2 = (((lo + hi) / 2 : Nat) : Int) by omega], by omega, by omega, Nat.le_refl _, rfl, by rw [← hb]; exact Lib.bsGo_fuel _ _ _ _ _ (Nat.le_refl _) (by omega)⟩
      · go_wp2_with (first | (go_at_call 106; refine (less_any _ _ _).mono ?_; rintro e w' ⟨rfl, rfl⟩) | (go_at_call 164; refine (nan2 _ _).mono ?_; rintro e w' ⟨rfl, rfl⟩))
        go_roundg (hi - ((lo + hi) / 2 + 1))
        case measure => omega
        case rel => exact ⟨(lo + hi) / 2 + 1, hi, _, by rw [show ((lo : Int) + (hi : Int)) / 2 + 1 = (((lo + hi) / 2 + 1 : Nat) : Int) by omega], rfl, by omega, hin, Nat.le_refl _, rfl, by rw [← hb]; exact Lib.bsGo_fuel _ _ _ _ _ (Nat.le_refl _) (by omega)⟩
    · have : hi = lo := by omega
      subst this
      have hIe : I = hi := by
        rw [← hb]
        cases gk <;> simp [Lib.bsGo]
      by_cases hn : hi < n
      · have cl : w.cell? ⟨b, off + hi, none⟩ = some (.string (Sx hi)) := hc _ hn
        clear hc hb hI
        obtain ⟨y, hy⟩ : ∃ y, Sx hi = y := ⟨_, rfl⟩
        rw [hy] at cl
        by_cases hyx : y = x
        · go_wp2_with (first | (go_at_call 164; refine (nan2 _ _).mono ?_; rintro e w' ⟨rfl, rfl⟩))
          go_ret2
          refine ⟨?_, _, rfl⟩
          try rw [hIe]
          rw [hy, decide_eq_true (show hi < n ∧ y = x from ⟨hn, hyx⟩)]
          first | rfl | simp [*]
        · have hne : (y.toList == x.toList) = false := by
            rw [beq_eq_false_iff_ne]
            intro h
            apply hyx
            rw [Lib.toList_data, Lib.toList_data] at h
            cases y with
            | mk yd => cases x with
              | mk xd => exact congrArg ByteArray.mk (Array.toList_inj.1 h)
          go_wp2_with (first | (go_at_call 164; refine (nan2 _ _).mono ?_; rintro e w' ⟨rfl, rfl⟩))
          all_goals
            (go_ret2
             refine ⟨?_, _, rfl⟩
             try rw [hIe]
             rw [hy, decide_eq_false (show ¬ (hi < n ∧ y = x) from fun h => hyx h.2)]
             first | rfl | simp [*])
      · clear hc hb hI
        go_wp2
        go_ret2
        refine ⟨?_, _, rfl⟩
        try rw [hIe]
        rw [decide_eq_false (show ¬ (hi < n ∧ Sx hi = x) from fun h => hn h.1)]
        first | rfl | simp [*]
set_option maxHeartbeats 1000000 in
set_option maxRecDepth 1000000 in
theorem bs_none (a : Option Addr) (c : Nat) (x : ByteArray) (w : World) :
    Calls Tryz.prog 132 #[.slice a 0 c, .string x] w fun e w' => e = .returned (.tuple #[.int .i64 0, .bool false]) ∧ w' = w := by
  go_enter Tryz.func132, Tryz.ntmps132
  go_wp2
  go_loop [7, 8] (fun s7 s8 => s7 = .int .i64 0 ∧ s8 = .int .i64 0) (fun _ _ => 0)
  case atStart => exact ⟨rfl, rfl⟩
  case round =>
    obtain ⟨rfl, rfl⟩ := hrel
    go_wp2
    go_ret2
    exact ⟨rfl, rfl⟩
def posL (m : List S) (s : S) : Nat := m.findIdx (fun x => !decide (x < s))
theorem risingQ_iff (l : List S) : ∀ p, risingQ p l = true → l.Pairwise (· < ·) ∧ (∀ q, p = some q → ∀ x, x ∈ l → q < x) := by
  induction l with
  | nil => intro p _; exact ⟨List.Pairwise.nil, fun q _ x hx => by cases hx⟩
  | cons s r ih =>
    intro p h
    unfold risingQ at h
    simp only [Bool.and_eq_true] at h
    obtain ⟨⟨h1, h2⟩, h3⟩ := h
    obtain ⟨i1, i2⟩ := ih (some s) h3
    refine ⟨List.pairwise_cons.2 ⟨fun y hy => i2 s rfl y hy, i1⟩, fun q hq x hx => ?_⟩
    subst hq
    simp only [decide_eq_true_eq] at h2
    rcases List.mem_cons.1 hx with rfl | hx
    · exact h2
    · exact List.lt_trans h2 (i2 s rfl x hx)
theorem posL_spec (m : List S) (s : S) (h : m.Pairwise (· < ·)) : posL m s ≤ m.length ∧ (∀ j, j < posL m s → m.getD j [] < s) ∧ (∀ j, posL m s ≤ j → j < m.length → ¬ m.getD j [] < s) := by
  unfold posL
  induction m with
  | nil => exact ⟨Nat.le_refl _, fun j hj => absurd hj (Nat.not_lt_zero _), fun j _ hj => absurd hj (Nat.not_lt_zero _)⟩
  | cons x r ih =>
    obtain ⟨h1, h2⟩ := List.pairwise_cons.1 h
    obtain ⟨i1, i2, i3⟩ := ih h2
    rw [List.findIdx_cons]
    by_cases c : x < s
    · simp only [c, decide_true, Bool.not_true, cond_false]
      refine ⟨by simp; exact i1, fun j hj => ?_, fun j hj hl => ?_⟩
      · cases j with
        | zero => exact c
        | succ j => exact i2 j (by omega)
      · cases j with
        | zero => omega
        | succ j => exact i3 j (by omega) (by simp at hl; omega)
    · simp only [c, decide_false, Bool.not_false, cond_true]
      refine ⟨Nat.zero_le _, fun j hj => absurd hj (Nat.not_lt_zero _), fun j _ hl => ?_⟩
      cases j with
      | zero => exact c
      | succ j =>
        simp only [List.length_cons] at hl
        have hj : j < r.length := by omega
        have hm : r.getD j [] ∈ r := by have : r.getD j [] = r[j] := by simp [List.getD, hj]
                                        rw [this]; exact List.getElem_mem hj
        intro hlt
        exact c (List.lt_trans (h1 _ hm) hlt)
theorem posS_posL (m : List S) (s : S) (h : m.Pairwise (· < ·)) : (posL m s < m.length ∧ m.getD (posL m s) [] = s ↔ m.contains s = true) ∧ (m.contains s = true → posS m s = posL m s) := by
  unfold posL posS
  induction m with
  | nil => simp
  | cons x r ih =>
    obtain ⟨h1, h2⟩ := List.pairwise_cons.1 h
    obtain ⟨i1, i2⟩ := ih h2
    rw [List.findIdx_cons, List.findIdx_cons]
    by_cases c : x < s
    · have hne : (x == s) = false := by rw [beq_eq_false_iff_ne]; rintro rfl; exact List.lt_irrefl _ c
      have hne2 : (s == x) = false := by rw [beq_eq_false_iff_ne]; rintro rfl; exact List.lt_irrefl _ c
      simp only [c, decide_true, Bool.not_true, cond_false, hne, List.length_cons, List.contains_cons, hne2, Bool.false_or, List.getD_cons_succ]
      refine ⟨⟨fun h => i1.1 ⟨by omega, h.2⟩, fun h => ?_⟩, fun h => by rw [i2 h]⟩
      obtain ⟨a, b⟩ := i1.2 h
      exact ⟨by omega, b⟩
    · simp only [c, decide_false, Bool.not_false, cond_true, List.length_cons, List.getD_cons_zero, List.contains_cons]
      by_cases e : x = s
      · subst e
        simp
      · have hne : (x == s) = false := by rw [beq_eq_false_iff_ne]; exact e
        have hne2 : (s == x) = false := by rw [beq_eq_false_iff_ne]; exact fun h => e h.symm
        have hnm : r.contains s = false := by
          rw [← Bool.not_eq_true, List.contains_iff_mem]
          intro hm
          exact c (h1 s hm)
        simp [hne2, hnm, e, hne]
        intro hm
        exact absurd (h1 s hm) c
theorem bsGo_cong (f g : Nat → Bool) (n : Nat) (h : ∀ t, t < n → f t = g t) : ∀ (k lo hi : Nat), hi ≤ n → Lib.bsGo f k lo hi = Lib.bsGo g k lo hi
  | 0, _, _, _ => rfl
  | k + 1, lo, hi, hh => by
    unfold Lib.bsGo
    by_cases c : lo < hi
    · rw [if_pos c, if_pos c, h _ (by omega), bsGo_cong f g n h k _ _ hh, bsGo_cong f g n h k _ _ (by omega)]
    · rw [if_neg c, if_neg c]
theorem bs_any (A : Option Addr) (c : Nat) (m : List S) (s : S) (w : World) (hR : RdS w A c m) (hr : risingP m = true) (hl : m.length ≤ 1048576) :
    Calls Tryz.prog 132 #[.slice A m.length c, .string (bs s)] w fun e w' => e = .returned (.tuple #[.int .i64 (posL m s), .bool (m.contains s)]) ∧ ∃ q, w' = w.drewN q := by
  have hp := (risingQ_iff m none hr).1
  obtain ⟨p1, p2, p3⟩ := posL_spec m s hp
  cases m with
  | nil =>
    refine (bs_none A c (bs s) w).mono ?_
    rintro e w' ⟨rfl, rfl⟩
    exact ⟨rfl, 0, rfl⟩
  | cons x r =>
    obtain ⟨b, off, rfl, hc⟩ := row_form (A := A) (p := (x :: r).map bs) (by rw [List.length_map]; exact hR.1) (by simp)
    rw [List.length_map] at hc
    have hg : ∀ j, j < (x :: r).length → ((x :: r).map bs).getD j ByteArray.empty = bs ((x :: r).getD j []) := fun j hj => by
      simp only [List.getD_eq_getElem?_getD, List.getElem?_map]
      rw [List.getElem?_eq_getElem hj]; rfl
    refine (bs_row b off (x :: r).length c (fun j => bs ((x :: r).getD j [])) (bs s) w (by omega) (fun j hj => by rw [hc j hj, hg j hj])).mono ?_
    rintro e w' ⟨rfl, q, rfl⟩
    refine ⟨?_, q, rfl⟩
    have hk : Lib.bsGo (fun t => Op.bytesLess (bs ((x :: r).getD t [])).toList (bs s).toList) (x :: r).length 0 (x :: r).length = posL (x :: r) s := by
      have hsp := Lib.bsGo_spec (fun t => if t < (x :: r).length then Op.bytesLess (bs ((x :: r).getD t [])).toList (bs s).toList else false) (posL (x :: r) s) (fun t ht => ?_) (fun t ht => ?_) (x :: r).length 0 (x :: r).length (by omega) (Nat.zero_le _) p1
      · rw [← hsp]
        exact bsGo_cong _ _ (x :: r).length (fun t ht => by rw [if_pos ht]) _ _ _ (Nat.le_refl _)
      · rw [if_pos (by omega), bytesLess_eq, bs_list, bs_list]; exact decide_eq_true (p2 t ht)
      · by_cases htl : t < (x :: r).length
        · rw [if_pos htl, bytesLess_eq, bs_list, bs_list]; exact decide_eq_false (p3 t ht htl)
        · rw [if_neg htl]
    rw [hk]
    have h2 := (posS_posL (x :: r) s hp).1
    have e2 : decide (posL (x :: r) s < (x :: r).length ∧ bs ((x :: r).getD (posL (x :: r) s) []) = bs s) = (x :: r).contains s := by
      rw [Bool.eq_iff_iff, decide_eq_true_eq, ← h2]
      exact ⟨fun h => ⟨h.1, by have := congrArg ByteArray.toList h.2; rwa [bs_list, bs_list] at this⟩, fun h => ⟨h.1, by rw [h.2]⟩⟩
    rw [e2]
end Go.Proofs.YtniibpndgcndbaaGreatDoor.Tpl
namespace Go.Proofs.YtniibpndgcndbaaGreatDoor.Tpl
open Go.RowKit Go.Proofs Go.Proofs.YtniibpndgcndbaaGreatDoor.PB Go.Proofs.YtniibpndgcndbaaGreatDoor.Short Go.Proofs.YtniibpndgcndbaaGreatDoorW.PrintWords Go.Proofs.YtniibpndgcndbaaGreatDoorW.PrintLast Go.Proofs.YtniibpndgcndbaaGreatDoorW.PrintMore Vals
abbrev vAgg (x : Val) (A3 : Option Addr) (c3 : Nat) (A4 : Option Addr) (c4 : Nat) : Value := .agg #[.int .u8 x.k, .string (bs x.t), .int .i64 x.n, .slice A3 x.i.len c3, .slice A4 x.m.length c4]
abbrev zAgg : Value := .agg #[.int .u8 0, .string ⟨#[]⟩, .int .i64 0, .slice none 0 0, .slice none 0 0]
def RdV (w : World) (x : Val) (A3 : Option Addr) (c3 : Nat) (A4 : Option Addr) (c4 : Nat) : Prop := Vals.Rd w A3 c3 x.i ∧ RdS w A4 c4 x.m
theorem RdV.below {w w1 : World} {x : Val} {A3 : Option Addr} {c3 : Nat} {A4 : Option Addr} {c4 : Nat} (h : RdV w x A3 c3 A4 c4) (hb : Below w.heap.size w w1) : RdV w1 x A3 c3 A4 c4 := ⟨h.1.below hb, RdS.below h.2 hb⟩
def RV (w : World) (ok : Nat → Prop) (x : Val) (A3 : Option Addr) (c3 : Nat) (A4 : Option Addr) (c4 : Nat) : Prop := FdV w ok A3 c3 x.i ∧ FdS w ok A4 c4 x.m
theorem RV.rd {w : World} {ok : Nat → Prop} {x : Val} {A3 : Option Addr} {c3 : Nat} {A4 : Option Addr} {c4 : Nat} (h : RV w ok x A3 c3 A4 c4) : RdV w x A3 c3 A4 c4 := ⟨h.1.rd, h.2.rd⟩
theorem RV.mono {w : World} {ok ok' : Nat → Prop} {x : Val} {A3 : Option Addr} {c3 : Nat} {A4 : Option Addr} {c4 : Nat} (h : RV w ok x A3 c3 A4 c4) (hk : ∀ k, ok k → ok' k) : RV w ok' x A3 c3 A4 c4 := ⟨⟨Kd.F_mono h.1.1 hk, h.1.2⟩, ⟨Kd.F_mono h.2.1 hk, h.2.2⟩⟩
theorem RV.step {w w1 : World} {ok : Nat → Prop} {x : Val} {A3 : Option Addr} {c3 : Nat} {A4 : Option Addr} {c4 : Nat} (h : RV w ok x A3 c3 A4 c4) (hm : ∀ k, ok k → k < w.heap.size → w1.heap[k]? = w.heap[k]?) : RV w1 (fun k => ok k ∧ k < w.heap.size) x A3 c3 A4 c4 :=
  ⟨⟨Kd.F_step (Kd.F_bound h.1.1) (fun k hk _ => hm k hk.1 hk.2), h.1.2⟩, ⟨Kd.F_step (Kd.F_bound h.2.1) (fun k hk _ => hm k hk.1 hk.2), h.2.2⟩⟩
theorem RV.of_rd {w : World} {x : Val} {A3 : Option Addr} {c3 : Nat} {A4 : Option Addr} {c4 : Nat} (h : RdV w x A3 c3 A4 c4) : RV w (fun k => k < w.heap.size) x A3 c3 A4 c4 := ⟨Tpl.Rd.fd h.1, Tpl.RdS.fd h.2⟩
def FindRet (o : Except Int Val) (ok : Nat → Prop) (w : World) (e : Ending) (w' : World) : Prop :=
  Below w.heap.size w w' ∧ match o with
  | .error k => e = .returned (.tuple #[zAgg, .int .i64 k])
  | .ok x => ∃ A3 c3 A4 c4, e = .returned (.tuple #[vAgg x A3 c3 A4 c4, .int .i64 0]) ∧ RV w' (fun q => ok q ∨ w.heap.size ≤ q) x A3 c3 A4 c4
theorem FdS.bound {w : World} {ok : Nat → Prop} {A : Option Addr} {c : Nat} {l : List S} (h : FdS w ok A c l) : FdS w (fun q => ok q ∧ q < w.heap.size) A c l := ⟨Kd.F_bound h.1, h.2⟩
theorem FdV.at {w : World} {ok : Nat → Prop} {A : Option Addr} {c : Nat} {l : Vals} (h : FdV w ok A c l) {j : Nat} {k t n i m r} (hd : l.drop j = cons k t n i m r) :
    ∃ ad A3 c3 A4 c4, A = some ad ∧ w.cell? (ad.add (j * 5)) = some (.int .u8 k) ∧ w.cell? ⟨(ad.add (j * 5)).block, (ad.add (j * 5)).off + 1, none⟩ = some (.string (bs t)) ∧ w.cell? ⟨(ad.add (j * 5)).block, (ad.add (j * 5)).off + 2, none⟩ = some (.int .i64 n) ∧
      w.cell? ⟨(ad.add (j * 5)).block, (ad.add (j * 5)).off + 3, none⟩ = some (.slice A3 i.len c3) ∧ w.cell? ⟨(ad.add (j * 5)).block, (ad.add (j * 5)).off + 4, none⟩ = some (.slice A4 m.length c4) ∧ FdV w ok A3 c3 i ∧ FdS w ok A4 c4 m := by
  have hl := (drop_step hd).1
  obtain ⟨ad, cs, rfl, _, hK, hc, _⟩ := Kd.F_get h.1 z43 (j : Int) (by omega) (by omega)
  rw [rd_drop hd] at hK
  obtain ⟨A3, c3, A4, c4, rfl, l3, F3, l4, F4⟩ := k43_openF hK
  simp only [List.length_map, of_len] at l3 F3 l4 F4
  have hc' : ∀ q u, [Value.int .u8 k, .string (bs t), .int .i64 n, .slice A3 i.len c3, .slice A4 m.length c4][q]? = some u → w.cell? (ad.add (j * 5 + q)) = some u := by
    intro q u hq
    have h := hc q u (by simpa [of_len] using hq)
    rwa [Int.toNat_natCast] at h
  refine ⟨ad, A3, c3, A4, c4, rfl, hc' 0 _ rfl, by rw [← add_field _ _ 1 (by omega)]; exact hc' 1 _ rfl, by rw [← add_field _ _ 2 (by omega)]; exact hc' 2 _ rfl, by rw [← add_field _ _ 3 (by omega)]; exact hc' 3 _ rfl, by rw [← add_field _ _ 4 (by omega)]; exact hc' 4 _ rfl, ⟨F3, l3⟩, ⟨F4, l4⟩⟩
theorem leaf_rising {k : Nat} {t : S} {n : Int} {il : Nat} {m : List S} (h : leafV k t n il m = true) : risingP m = true ∧ (0 < m.length → m.length = il) := by
  unfold leafV at h
  split at h
  · simp at h; have h0 : m = [] := h.2.2; subst h0; exact ⟨rfl, fun h => by cases h⟩
  split at h
  · simp at h; have h0 : m = [] := h.2.2; subst h0; exact ⟨rfl, fun h => by cases h⟩
  split at h
  · simp at h; have h0 : m = [] := h.2.2; subst h0; exact ⟨rfl, fun h => by cases h⟩
  split at h
  · simp only [Bool.and_eq_true, beq_iff_eq] at h; exact ⟨h.2, fun _ => h.1.2⟩
  split at h
  · simp at h; have h0 : m = [] := h.2; subst h0; exact ⟨rfl, fun h => by cases h⟩
  · cases h
theorem cnt_nth (l : Vals) : ∀ {j x}, l.nth j = some x → x.i.cnt + 1 ≤ l.cnt := by
  induction l with
  | nil => intro j x h; cases j <;> simp [Vals.nth] at h
  | cons k t n i m r _ ih =>
    intro j x hx
    cases j with
    | zero => simp only [Vals.nth, Option.some.injEq] at hx; subst hx; simp only [Vals.cnt]; omega
    | succ j => have := ih hx; simp only [Vals.cnt]; omega
theorem FindP_bad {v : Val} {path : List S} (h : v.ok = false) : FindP v path = .error 2 := by unfold FindP; rw [if_neg (by simp [h])]
theorem FindP_go {v : Val} {path : List S} (h : v.ok = true) : FindP v path = optE (findV v path) := by unfold FindP; rw [if_pos h]
set_option maxHeartbeats 2000000 in
set_option maxRecDepth 100000 in
theorem vfind_any (v : Val) (A3 : Option Addr) (c3 : Nat) (A4 : Option Addr) (c4 : Nat) (Ap : Option Addr) (cp : Nat) (path : List S) (ok : Nat → Prop) (w : World) (hs : v.sm) (hR : RV w ok v A3 c3 A4 c4) (hc : v.i.cnt ≤ 1048576) (hP : RdS w Ap cp path) (hp : path.length ≤ 1048576) :
    Calls Tryz.prog 89 #[vAgg v A3 c3 A4 c4, .slice Ap path.length cp] w (FindRet (FindP v path) ok w) := by
  obtain ⟨k, t, n, i, m⟩ := v
  have HS := Aside0.mk hs
  have HR := Aside0.mk hR
  have HP := Aside0.mk hP
  have HC := Aside0.mk hc
  obtain ⟨ov, hov⟩ : ∃ o, FindP ⟨k, t, n, i, m⟩ path = o := ⟨_, rfl⟩
  rw [hov]
  have hb2 := below_alloc (below_alloc (Below.refl w.heap.size w) (vBox k t n A3 i.len c3 A4 m.length c4)) zBox
  have BK1 := blk_alloc (blk_new w (vBox k t n A3 i.len c3 A4 m.length c4)) zBox
  have BK2 := blk_new (w.alloc (vBox k t n A3 i.len c3 A4 m.length c4)) zBox
  rw [World.size_alloc] at BK2
  have hchk := vchk_any k t n i m A3 c3 A4 c4 _ hs (hR.rd.1.below hb2) (RdS.below hR.rd.2 hb2) hc
  have HB2 := Aside0.mk hb2
  have HOV := Aside0.mk hov
  clear hs hR hP hb2 hov hc
  go_enter Tryz.func89, Tryz.ntmps89
  go_wp2_with fail
  generalize ((w.alloc (vBox k t n A3 i.len c3 A4 m.length c4)).alloc zBox) = W at BK1 BK2 HB2 hchk ⊢
  obtain ⟨b1, hb1⟩ : ∃ b, w.heap.size = b := ⟨_, rfl⟩
  have Hb1 := Aside0.mk hb1
  rw [hb1] at BK1 BK2 ⊢
  clear hb1
  refine hchk.mono ?_
  rintro e w1 ⟨rfl, hb⟩
  have HB1 := Aside0.mk (below_step HB2.out hb)
  have HK1 := Aside0.mk (blk_below BK1 hb)
  have HK2 := Aside0.mk (blk_below BK2 hb)
  have hle1 : w.heap.size ≤ b1 := Nat.le_of_eq Hb1.out
  clear hb BK1 BK2 HB2 hchk
  cases hck : chkV k t n i m with
  | false =>
    have HO : Except.error 2 = ov := (FindP_bad (show Val.ok ⟨k, t, n, i, m⟩ = false from hck)).symm.trans HOV.out
    subst HO
    clear HOV hck
    have hlt2 : b1 + 1 < w1.heap.size := blk_lt HK2.out
    obtain ⟨x0, x1, x2, x3, x4, q0, q1, q2, q3, q4⟩ := cells_5 HK2.out
    go_wp2
    refine bodyPost_ret (results_ct rfl _ _ (b1 + 1) 43 #[.int .u8 0, .string ⟨#[]⟩, .int .i64 0, .slice none 0 0, .slice none 0 0] (0, 0) _ rfl (put5_blk HK2.out) Tryz.underlying43 rfl (by kernel_rfl)) rfl ?_
    exact ⟨put5_below HB1.out (by omega), rfl⟩
  | true =>
    obtain ⟨o, ho⟩ : ∃ o, findV ⟨k, t, n, i, m⟩ path = o := ⟨_, rfl⟩
    have HO : Aside0 (optE o = ov) := ⟨by have h := HOV.out; rw [FindP_go (show Val.ok ⟨k, t, n, i, m⟩ = true from hck), ho] at h; exact h⟩
    have HF := Aside0.mk ho
    have HCK := Aside0.mk hck
    clear HOV ho hck
    obtain ⟨z0, z1, z2, z3, z4, f0, f1, f2, f3, f4⟩ := cells_5 HK1.out
    go_wp2
    go_loopw [19] (fun u wr => ∃ (j : Nat) (x : Val) (B3 : Option Addr) (d3 : Nat) (B4 : Option Addr) (d4 : Nat), u = .int .i64 j ∧ j ≤ path.length ∧ Aside0 (wr.heap[b1]? = some (vObj x.k x.t x.n x.i x.m B3 d3 B4 d4)) ∧ Aside0 (wr.heap[b1 + 1]? = some zBox) ∧ Aside0 (RV w ok x B3 d3 B4 d4) ∧ Aside0 (x.ok = true) ∧ Aside0 x.sm ∧ Aside0 (x.i.cnt ≤ 1048576) ∧ Aside0 (findV x (path.drop j) = o) ∧ Aside0 (Below w.heap.size w wr)) (fun u _ => path.length - (intOf u).toNat)
    case atStart => exact ⟨0, ⟨k, t, n, i, m⟩, A3, c3, A4, c4, rfl, Nat.zero_le _, HK1, HK2, HR, HCK, HS, HC, HF, HB1⟩
    case round =>
      clear z0 z1 z2 z3 z4 f0 f1 f2 f3 f4 HK1 HK2 HR HCK HS HC HF HB1
      obtain ⟨j, x, B3, d3, B4, d4, rfl, hj, HK1, HK2, HR, HCK, HS, HC, HF, HB1⟩ := hrel
      obtain ⟨k, t, n, i, m⟩ := x
      simp only at HK1 HK2 HR HCK HS HC
      obtain ⟨z0, z1, z2, z3, z4, f0, f1, f2, f3, f4⟩ := cells_5 HK1.out
      have hlt1 : b1 < wr.heap.size := blk_lt HK1.out
      have hlt2 : b1 + 1 < wr.heap.size := blk_lt HK2.out
      by_cases hjp : j < path.length
      · have hdr : path.drop j = path.getD j [] :: path.drop (j + 1) := by rw [List.drop_eq_getElem_cons hjp]; simp [List.getD, hjp]
        obtain ⟨bp, op, rfl, hcs⟩ := cellS HP.out j hjp
        replace hcs := pw_cell_below HB1.out hcs
        have HF' : Aside0 (findV ⟨k, t, n, i, m⟩ (path.getD j [] :: path.drop (j + 1)) = o) := ⟨by have h := HF.out; rwa [hdr] at h⟩
        obtain ⟨s, hse⟩ : ∃ s, path.getD j [] = s := ⟨_, rfl⟩
        rw [hse] at hcs HF'
        clear hdr hse HF
        have hlf : leafV k t n i.len m = true ∧ okV i 7 = true ∧ i.cnt ≤ 255 := (chkV_iff _ _ _ _ _).1 HCK.out
        obtain ⟨hri, hlen⟩ := leaf_rising hlf.1
        have hml : m.length ≤ 1048576 := HS.out.2.2.2.2.1
        have hbs := fun W (hb : Below w.heap.size w W) => bs_any B4 d4 m s W (RdS.below HR.out.rd.2 hb) hri hml
        have hps := posS_posL m s (risingQ_iff m none hri).1
        clear hri
        cases hct : m.contains s with
        | false =>
          have HO2 : Aside0 (o = none) := ⟨by rw [← HF'.out, findV]; simp only [hct]; rfl⟩
          rw [hct] at hbs
          clear hct hps HF'
          go_wp2_with fail
          refine (hbs wr HB1.out).mono ?_
          rintro e w2 ⟨rfl, q, rfl⟩
          obtain ⟨x0, x1, x2, x3, x4, q0, q1, q2, q3, q4⟩ := cells_5 HK2.out
          go_wp2
          refine bodyPost_ret (results_ct rfl _ _ (b1 + 1) 43 #[.int .u8 0, .string ⟨#[]⟩, .int .i64 0, .slice none 0 0, .slice none 0 0] (0, 0) _ rfl (put5_blk HK2.out) Tryz.underlying43 rfl (by kernel_rfl)) rfl ?_
          have hov : Except.error 3 = ov := by rw [← HO.out, HO2.out]; rfl
          subst hov
          exact ⟨put5_below (pw_below_drewN HB1.out q) (by omega), rfl⟩
        | true =>
          rw [hct] at hbs
          have hpl : posL m s < m.length := (hps.1.2 hct).1
          have hil : m.length = i.len := hlen (by omega)
          obtain ⟨y, r, hy, hyd⟩ := Vals.nth_some i (j := posL m s) (by omega)
          have HF2 : Aside0 (findV y (path.drop (j + 1)) = o) := ⟨by rw [← HF'.out, findV]; simp only [hct, if_true, hps.2 hct, hy]⟩
          have HY := Aside0.mk hy
          obtain ⟨ad, C3, e3, C4, e4, rfl, y0, y1, y2, y3, y4, R3, R4⟩ := FdV.at HR.out.1 hyd
          replace y0 := pw_cell_below HB1.out y0
          replace y1 := pw_cell_below HB1.out y1
          replace y2 := pw_cell_below HB1.out y2
          replace y3 := pw_cell_below HB1.out y3
          replace y4 := pw_cell_below HB1.out y4
          have hpi : posL m s < i.len := by omega
          obtain ⟨pl, hpe⟩ : ∃ p, posL m s = p := ⟨_, rfl⟩
          rw [hpe] at y0 y1 y2 y3 y4 hpi HY
          simp only [hpe] at hbs
          clear hct hps HF' hy hyd hpl hlen hlf hpe hil
          go_wp2_with fail
          refine (hbs wr HB1.out).mono ?_
          rintro e w2 ⟨rfl, q, rfl⟩
          clear hbs
          have hne : b1 + 1 ≠ b1 := by omega
          go_wp2
          go_roundw
          case rel => exact ⟨j + 1, y, C3, e3, C4, e4, by simp, by omega, ⟨put5_blk HK1.out⟩, ⟨(put5_far hne).trans HK2.out⟩, ⟨R3, R4⟩, ⟨ok_nth HCK.out HY.out⟩, ⟨sm_nth i HS.out.2.2.2.2.2.2.1 HY.out⟩, ⟨by have := cnt_nth i HY.out; have := HC.out; omega⟩, HF2, ⟨put5_below (pw_below_drewN HB1.out q) (by omega)⟩⟩
          case measure => simp [intOf]; omega
      · have hjl : j = path.length := by omega
        subst hjl
        have HO2 : Aside0 (o = some ⟨k, t, n, i, m⟩) := ⟨by rw [← HF.out, List.drop_eq_nil_of_le (Nat.le_refl _), findV]⟩
        clear HF hjp
        have hown := own_any (i.cnt + 1) k t n i m B3 d3 B4 d4 (fun q => ok q ∧ q < w.heap.size) (fun q => ok q ∧ q < w.heap.size) wr (Nat.lt_succ_self _) HS.out (HR.out.1.bound.below HB1.out) ((FdS.bound HR.out.2).below HB1.out)
        go_wp2_with fail
        refine hown.mono ?_
        rintro e w2 ⟨E3, f3', E4, f4', rfl, hN, hRs, hb⟩
        clear hown
        have HK2' := Aside0.mk (blk_below HK2.out hb)
        have hlt3 : b1 + 1 < w2.heap.size := blk_lt HK2'.out
        obtain ⟨x0, x1, x2, x3, x4, q0, q1, q2, q3, q4⟩ := cells_5 HK2'.out
        have HN := Aside0.mk hN
        have HRS := Aside0.mk hRs
        have HB := Aside0.mk (below_step HB1.out hb)
        clear hN hRs hb
        go_wp2
        refine bodyPost_ret (results_ct rfl _ _ (b1 + 1) 43 #[.int .u8 k, .string (bs t), .int .i64 n, .slice E3 i.len f3', .slice E4 m.length f4'] (0, 0) _ rfl (put5_blk HK2'.out) Tryz.underlying43 rfl (by kernel_rfl)) rfl ?_
        have hov : Except.ok ⟨k, t, n, i, m⟩ = ov := by rw [← HO.out, HO2.out]; rfl
        subst hov
        have hb1 := Hb1.out
        refine ⟨put5_below HB.out (by omega), E3, f3', E4, f4', rfl, (NV.fd (Kd.N_step HN.out (fun q hq _ => put5_far (fun e => by omega)))).mono (fun q hq => by rcases hq with hq | hq; exact .inl hq.1; exact .inr (by omega)), (RS.fd (Kd.R_step HRS.out (fun q hq _ => put5_far (fun e => by omega)))).mono (fun q hq => .inr (by omega))⟩
end Go.Proofs.YtniibpndgcndbaaGreatDoor.Tpl
namespace Go.Proofs.YtniibpndgcndbaaGreatDoor.Tpl
open Go.RowKit Go.Proofs Go.Proofs.YtniibpndgcndbaaGreatDoor.PB Go.Proofs.YtniibpndgcndbaaGreatDoor.Short Go.Proofs.YtniibpndgcndbaaGreatDoorW.PrintWords Go.Proofs.YtniibpndgcndbaaGreatDoorW.PrintLast Go.Proofs.YtniibpndgcndbaaGreatDoorW.PrintMore Vals
def GTab (w : World) : Prop := Lib.TabIs Tryz.prog w "internal/strconv.uint64pow10" .u64 Lib.pow10Tab
theorem gTabN : Tryz.prog.globalNamed "internal/strconv.uint64pow10" = some 4 := by kernel_rfl
theorem GTab.below {w w' : World} (h : GTab w) (hb : Below w.heap.size w w') : GTab w' := by
  unfold GTab Lib.TabIs World.var? at h ⊢
  rw [gTabN] at h ⊢
  simp only [Option.bind_some] at h ⊢
  have hlt : 4 < w.heap.size := by
    rcases Nat.lt_or_ge 4 w.heap.size with h' | h'
    · exact h'
    · rw [Array.getElem?_eq_none h'] at h; cases h
  rw [hb.block _ hlt]
  exact h
theorem fmt_any (n : Int) (h : -9223372036854775808 ≤ n ∧ n ≤ 9223372036854775807) (w : World) (hT : GTab w) : Calls Tryz.prog 186 #[.int .i64 n, .int .i64 10] w fun e w' => e = .returned (.string (bs (Lib.itoa n))) ∧ Below w.heap.size w w' := by
  refine (Tryz.strconv_FormatInt_10 n h.1 h.2 w hT).mono ?_
  rintro e w' ⟨rfl, k, os, rfl⟩
  exact ⟨rfl, Lib.below_grow _ _ (Nat.le_refl _) k os⟩
set_option maxHeartbeats 1000000 in
set_option maxRecDepth 100000 in
theorem vshow_any (k : Nat) (t : S) (n : Int) (i : Vals) (m : List S) (A3 : Option Addr) (c3 : Nat) (A4 : Option Addr) (c4 : Nat) (w : World) (hs : (cons k t n i m Vals.nil).sm) (hR : Vals.Rd w A3 c3 i) (hM : RdS w A4 c4 m) (hc : i.cnt ≤ 1048576) (hT : GTab w) :
    Calls Tryz.prog 160 #[.agg #[.int .u8 k, .string (bs t), .int .i64 n, .slice A3 i.len c3, .slice A4 m.length c4]] w fun e w' => e = .returned (.tuple #[.string (bs (showP ⟨k, t, n, i, m⟩)), .int .i64 (if chkV k t n i m = true then 0 else 2)]) ∧ Below w.heap.size w w' := by
  have hb0 := below_alloc (Below.refl w.heap.size w) (vBox k t n A3 i.len c3 A4 m.length c4)
  have hn0 := blk_new w (vBox k t n A3 i.len c3 A4 m.length c4)
  have hA := vchk_any k t n i m A3 c3 A4 c4 (w.alloc (vBox k t n A3 i.len c3 A4 m.length c4)) hs (hR.below hb0) (RdS.below hM hb0) hc
  have hn : -9223372036854775808 ≤ n ∧ n ≤ 9223372036854775807 := hs.2.2.1
  have hil : i.len ≤ 1048576 := hs.2.2.2.1
  have HB0 := Aside0.mk hb0
  have HN0 := Aside0.mk hn0
  have HT := Aside0.mk (hT.below hb0)
  clear hR hM hs hb0 hn0 hT
  obtain ⟨sv, he⟩ : ∃ v : S, showP ⟨k, t, n, i, m⟩ = v := ⟨_, rfl⟩
  rw [he]
  cases hch : chkV k t n i m with
  | false =>
    have he2 : sv = [] := by rw [← he]; unfold showP Val.ok; simp only [hch]; rfl
    subst he2
    rw [hch] at hA
    clear he hch
    go_enter Tryz.func160, Tryz.ntmps160
    go_wp2_with fail
    refine hA.mono ?_
    rintro e w1 ⟨rfl, hb⟩
    have HB1 := Aside0.mk (below_step HB0.out hb)
    clear hb hA
    go_wp2
    go_ret2
    exact ⟨rfl, HB1.out⟩
  | true =>
    have he2 : showV k t n i.len = sv := by rw [← he]; unfold showP Val.ok; simp only [hch, if_true]
    rw [hch] at hA
    have HE := Aside0.mk he2
    clear he hch he2
    go_enter Tryz.func160, Tryz.ntmps160
    go_wp2_with fail
    refine hA.mono ?_
    rintro e w1 ⟨rfl, hb⟩
    have HB1 := Aside0.mk (below_step HB0.out hb)
    have HT1 := Aside0.mk (HT.out.below hb)
    have hn1 := blk_below HN0.out hb
    obtain ⟨m0, m1, m2, m3, m4, n0, n1, n2, n3, n4⟩ := cells_5 hn1
    clear hb hA hn1
    by_cases k1 : k = 1
    · subst k1
      go_wp2
      go_ret2
      exact ⟨by rw [← HE.out]; rfl, HB1.out⟩
    have b1 : ((k : Int) == 1) = false := by rw [beq_eq_false_iff_ne]; omega
    by_cases k3 : k = 3
    · subst k3
      by_cases hn1 : n = 1
      · subst hn1
        go_wp2
        go_ret2
        exact ⟨by rw [← HE.out]; rfl, HB1.out⟩
      · have b2 : (n == 1) = false := by rw [beq_eq_false_iff_ne]; exact hn1
        go_wp2
        go_ret2
        exact ⟨by rw [← HE.out]; unfold showV; rw [if_neg (by decide), if_pos rfl, if_neg hn1]; rfl, HB1.out⟩
    have b3 : ((k : Int) == 3) = false := by rw [beq_eq_false_iff_ne]; omega
    by_cases k2 : k = 2
    · subst k2
      go_wp2_with fail
      refine (fmt_any n hn w1 HT1.out).mono ?_
      rintro e w2 ⟨rfl, hb⟩
      have HB2 := Aside0.mk (below_step HB1.out hb)
      clear hb
      go_wp2
      go_ret2
      exact ⟨by rw [← HE.out]; rfl, HB2.out⟩
    · have b2 : ((k : Int) == 2) = false := by rw [beq_eq_false_iff_ne]; omega
      have hs : showV k t n i.len = Lib.itoa (i.len : Int) := by unfold showV; rw [if_neg k1, if_neg k3, if_neg k2]
      have HS := Aside0.mk (hs.symm.trans HE.out)
      clear hs HE
      go_wp2_with fail
      refine (fmt_any (i.len : Int) (by omega) w1 HT1.out).mono ?_
      rintro e w2 ⟨rfl, hb⟩
      have HB2 := Aside0.mk (below_step HB1.out hb)
      clear hb
      go_wp2
      go_ret2
      exact ⟨by rw [← HS.out]; rfl, HB2.out⟩
end Go.Proofs.YtniibpndgcndbaaGreatDoor.Tpl
namespace Go.Proofs.YtniibpndgcndbaaGreatDoor.Bld
open Go.RowKit
abbrev T : TypeId := 78
abbrev IsB (B b : Nat) (bs : List Value) (w : World) : Prop := Lib.IsBuilderF 78 5 B b bs w
theorem sizeB : (Tryz.prog.info? 78).map (·.size) = some 2 := by kernel_rfl
theorem infoB : (Tryz.prog.info? 5).map (fun i => (i.zero, i.size, i.bytes)) = some (some (.int .u8 0), 1, 1) := by kernel_rfl
set_option maxRecDepth 100000 in
theorem fresh (b : Nat) (w : World) (h0 : w.cell? ⟨b, 0, none⟩ = some (.pointer none)) (hsh : w.shape? b = some (78, 2)) (hfz : w.frozen? ⟨b, 0, none⟩ = false) :
    Calls Tryz.prog 145 #[.pointer (some ⟨b, 0, none⟩)] w fun e w' => e = .returned (.tuple #[]) ∧ w' = w.setCell ⟨b, 0, none⟩ (.pointer (some ⟨b, 0, none⟩)) := by
  obtain ⟨j, hj, hjs⟩ := Option.map_eq_some_iff.1 sizeB
  go_enter Tryz.func145, Tryz.ntmps145
  go_wp2
  rw [Lib.run_to_unsafe w ⟨b, 0, none⟩ Tryz.underlying75 Tryz.underlying162 hj (by rw [hjs]; decide) hsh (Nat.zero_lt_succ 1)]
  simp only [Result.andThen]
  rw [Oper.upon_value]
  go_wp2
  rw [run_callFunc_extern Tryz.func177 (by kernel_rfl) (by kernel_rfl) (by kernel_rfl) (e := Extern.AbiNoEscape.same) (by kernel_rfl)]
  rw [Lib.run_noEscape]
  simp only [Result.andThen]
  rw [Oper.upon_value]
  go_wp2
  rw [Lib.run_from_unsafe w ⟨b, 0, none⟩ Tryz.underlying162 Tryz.underlying75 hj hsh (by kernel_rfl)]
  simp only [Result.andThen]
  rw [Oper.upon_value]
  go_wp2
  go_end0
  exact ⟨rfl, rfl⟩
set_option maxRecDepth 100000 in
theorem used (b : Nat) (w : World) (h0 : w.cell? ⟨b, 0, none⟩ = some (.pointer (some ⟨b, 0, none⟩))) :
    Calls Tryz.prog 145 #[.pointer (some ⟨b, 0, none⟩)] w fun e w' => e = .returned (.tuple #[]) ∧ w' = w := by
  obtain ⟨j, hj, _⟩ := Option.map_eq_some_iff.1 sizeB
  go_enter Tryz.func145, Tryz.ntmps145
  go_wp2
  rw [Lib.run_neq_ptr_same w _ Tryz.underlying75 hj]
  go_wp2
  go_end0
  exact ⟨rfl, rfl⟩
theorem check (B b : Nat) (bs : List Value) (w : World) (h : IsB B b bs w) :
    Calls Tryz.prog 145 #[.pointer (some ⟨b, 0, none⟩)] w fun e w' => e = .returned (.tuple #[]) ∧ Lib.BuilderAtF 78 5 B b (.pointer (some ⟨b, 0, none⟩)) bs w' ∧ Below B w w' := by
  rcases h with h | h
  · refine (fresh b w h.cell0 h.shape h.frozen0).mono ?_
    rintro e w' ⟨rfl, rfl⟩
    exact ⟨rfl, h.used _, (Below.refl B w).setCell (p := ⟨b, 0, none⟩) h.1 _⟩
  · refine (used b w h.cell0).mono ?_
    rintro e w' ⟨rfl, rfl⟩
    exact ⟨rfl, h, Below.refl B _⟩
theorem heap_lt {w : World} {b : Nat} {o : Obj} (h : w.heap[b]? = some o) : b < w.heap.size := by
  rcases Nat.lt_or_ge b w.heap.size with h' | h'
  · exact h'
  · simp [Array.getElem?_eq_none h'] at h
set_option maxHeartbeats 2000000 in
set_option maxRecDepth 100000 in
theorem writeByte (B b : Nat) (bs : List Value) (c : Int) (w : World) (h : IsB B b bs w) (hlen : bs.length + 1 ≤ 140737488355328) (hBw : B ≤ w.heap.size) :
    Calls Tryz.prog 196 #[.pointer (some ⟨b, 0, none⟩), .int .u8 c] w fun e w' => e = .returned .nilIface ∧ IsB B b (bs ++ [.int .u8 c]) w' ∧ Below B w w' := by
  obtain ⟨i0, hi, hz0, hz1, hz2⟩ := info_parts infoB
  go_enter Tryz.func196, Tryz.ntmps196
  go_wp2_with (go_at_call 145; refine (check B b bs _ h).mono ?_)
  rintro e w1 ⟨rfl, ⟨hB, v, hbk, hown, hne⟩, hb1⟩
  have hz := hb1.size
  have c0 : w1.cell? ⟨b, 0, none⟩ = some (.pointer (some ⟨b, 0, none⟩)) := by rw [Lib.cell_of_heap hbk]; rfl
  have c1 : w1.cell? ⟨b, 1, none⟩ = some v := by rw [Lib.cell_of_heap hbk]; rfl
  go_wp2_with (at_builtin; refine wpList_append_ownF _ rfl _ _ 76 rfl B 5 i0 (.int .u8 0) 1 1 Tryz.underlying76 hi hz0 hz1 hz2 rfl (by decide) _ _ _ rfl (hown.alloc _) ⟨w1.heap.size, 0, none⟩ 1 1 [.int .u8 c] rfl rfl ?c1 ?c2 ?c3 ?c4 ?c5 ?_)
  case c1 =>
    intro j u hj
    match j, hj with
    | 0, hj => simp at hj; subst hj; simp [Addr.add]
  case c2 => intro u hu; simp at hu; subst hu; rfl
  case c3 => unfold maxLen; omega
  case c4 => omega
  case c5 => simp; omega
  intro v' w2 hown' hgrow _
  have hlt := heap_lt hbk
  have hb2 : w2.heap[b]? = some (.cells #[.pointer (some ⟨b, 0, none⟩), v] 78 (0, 0)) := by
    rw [hgrow.block b (by simp; omega) (fun e => hne e.symm), Lib.alloc_old w1 _ b hlt]; exact hbk
  have d1 : w2.cell? ⟨b, 1, none⟩ = some v := by rw [Lib.cell_of_heap hb2]; rfl
  have f1 : w2.frozen? ⟨b, 1, none⟩ = false := Lib.frozen_of_heap hb2 1
  obtain ⟨g, cap, rfl⟩ : ∃ g cap, v' = .slice (some ⟨g, 0, none⟩) (bs.length + 1) cap := by
    rcases hown'.2 with ⟨_, h0⟩ | ⟨g, cap, cur, fz, hv, _⟩
    · omega
    · exact ⟨g, cap, hv⟩
  go_wp2
  go_ret
  refine ⟨rfl, .inr (Lib.BuilderAtF.put hB hb2 (bs' := bs ++ [.int .u8 c]) (by simpa using hown') (by decide)), ?_⟩
  exact ((hb1.alloc (by omega) _).grown hgrow (by simp; omega) (fun k hk => (hown.lt k hk).1)).setCell (p := ⟨b, 1, none⟩) hB _
set_option maxHeartbeats 2000000 in
set_option maxRecDepth 100000 in
theorem writeString (B b : Nat) (bs : List Value) (s : ByteArray) (w : World) (h : IsB B b bs w) (hlen : bs.length + s.size ≤ 140737488355328) (hBw : B ≤ w.heap.size) :
    Calls Tryz.prog 98 #[.pointer (some ⟨b, 0, none⟩), .string s] w fun e w' => e = .returned (.tuple #[.int .i64 s.size, .nilIface]) ∧ IsB B b (bs ++ Lib.strCells s) w' ∧ Below B w w' := by
  obtain ⟨i0, hi, hz0, hz1, hz2⟩ := info_parts infoB
  go_enter Tryz.func98, Tryz.ntmps98
  go_wp2_with (go_at_call 145; refine (check B b bs _ h).mono ?_)
  rintro e w1 ⟨rfl, ⟨hB, v, hbk, hown, hne⟩, hb1⟩
  have hz := hb1.size
  have c0 : w1.cell? ⟨b, 0, none⟩ = some (.pointer (some ⟨b, 0, none⟩)) := by rw [Lib.cell_of_heap hbk]; rfl
  have c1 : w1.cell? ⟨b, 1, none⟩ = some v := by rw [Lib.cell_of_heap hbk]; rfl
  go_wp2_with (at_builtin; refine Lib.wpList_append_own_stringF _ rfl _ _ 76 9 rfl B 5 i0 Tryz.underlying76 Tryz.underlying9 hi hz0 hz1 hz2 _ _ _ rfl hown s rfl ?c3 ?c4 ?c5 ?_)
  case c3 => unfold maxLen; omega
  case c4 => omega
  case c5 => omega
  intro v' w2 hown' hgrow _
  have hlt := heap_lt hbk
  have hb2 : w2.heap[b]? = some (.cells #[.pointer (some ⟨b, 0, none⟩), v] 78 (0, 0)) := by
    rw [hgrow.block b hlt (fun e => hne e.symm)]; exact hbk
  have d1 : w2.cell? ⟨b, 1, none⟩ = some v := by rw [Lib.cell_of_heap hb2]; rfl
  have f1 : w2.frozen? ⟨b, 1, none⟩ = false := Lib.frozen_of_heap hb2 1
  obtain ⟨ao, n', cap, rfl⟩ : ∃ ao n' cap, v' = .slice ao n' cap := by
    rcases hown'.2 with ⟨hv, _⟩ | ⟨g, cap, cur, fz, hv, _⟩
    · exact ⟨_, _, _, hv⟩
    · exact ⟨_, _, _, hv⟩
  go_wp2
  go_ret2
  refine ⟨rfl, .inr (Lib.BuilderAtF.put hB hb2 (bs' := bs ++ Lib.strCells s) (by simpa [Lib.strCells_length] using hown') (by decide)), ?_⟩
  exact (hb1.grown hgrow (by omega) (fun k hk => (hown.lt k hk).1)).setCell (p := ⟨b, 1, none⟩) hB _
theorem string (B b : Nat) (l : List UInt8) (w : World) (h : IsB B b (Lib.byteCells l) w) (hBw : B ≤ w.heap.size) :
    Calls Tryz.prog 57 #[.pointer (some ⟨b, 0, none⟩)] w fun e w' => e = .returned (.string ⟨l.toArray⟩) ∧ IsB B b (Lib.byteCells l) w' ∧ Below B w w' :=
  Tryz.Builder_String_any_f B b l w h hBw
end Go.Proofs.YtniibpndgcndbaaGreatDoor.Bld
namespace Go.Proofs.YtniibpndgcndbaaGreatDoor.Tpl
open Go.RowKit Go.Proofs Go.Proofs.YtniibpndgcndbaaGreatDoor.PB Go.Proofs.YtniibpndgcndbaaGreatDoor.Short Go.Proofs.YtniibpndgcndbaaGreatDoorW.PrintWords Go.Proofs.YtniibpndgcndbaaGreatDoorW.PrintLast Go.Proofs.YtniibpndgcndbaaGreatDoorW.PrintMore
def bufOf (w : World) (g : Nat) : Option Nat := (w.cell? ⟨g, 1, none⟩).bind Value.ownBlock
def Off (w : World) (g k : Nat) : Prop := k ≠ g ∧ some k ≠ bufOf w g
structure PStep (g : Nat) (w w1 : World) : Prop where
  os : w1.os = w.os
  tape : w1.tape = w.tape
  output : w1.output = w.output
  size : w.heap.size ≤ w1.heap.size
  blk : ∀ k, k < w.heap.size → Off w g k → w1.heap[k]? = w.heap[k]?
  buf : bufOf w1 g = bufOf w g ∨ ∃ b, bufOf w1 g = some b ∧ w.heap.size ≤ b
theorem PStep.refl (g : Nat) (w : World) : PStep g w w := ⟨rfl, rfl, rfl, Nat.le_refl _, fun _ _ _ => rfl, .inl rfl⟩
theorem Off.step {g : Nat} {w w1 : World} (h : PStep g w w1) {k : Nat} (hk : k < w.heap.size) (ho : Off w g k) : Off w1 g k := by
  refine ⟨ho.1, fun e => ?_⟩
  rcases h.buf with hb | ⟨b, hb, hle⟩
  · exact ho.2 (e.trans hb)
  · rw [hb] at e; cases e; omega
theorem PStep.trans {g : Nat} {w w1 w2 : World} (h : PStep g w w1) (k : PStep g w1 w2) : PStep g w w2 := by
  refine ⟨k.os.trans h.os, k.tape.trans h.tape, k.output.trans h.output, Nat.le_trans h.size k.size, fun i hi ho => (k.blk i (Nat.lt_of_lt_of_le hi h.size) (ho.step h hi)).trans (h.blk i hi ho), ?_⟩
  rcases k.buf with hb | ⟨b, hb, hle⟩
  · rw [hb]; exact h.buf
  · exact .inr ⟨b, hb, Nat.le_trans h.size hle⟩
theorem bufOf_below {w w1 : World} {g : Nat} (hg : g < w.heap.size) (hb : Below w.heap.size w w1) : bufOf w1 g = bufOf w g := by
  unfold bufOf World.cell?
  simp only [hb.block g hg]
theorem PStep.of_below {g : Nat} {w w1 : World} (hg : g < w.heap.size) (hb : Below w.heap.size w w1) : PStep g w w1 := ⟨hb.os, hb.tape, hb.output, hb.size, fun k hk _ => hb.block k hk, .inl (bufOf_below hg hb)⟩
theorem PStep.blkOf {g : Nat} {w w1 : World} (h : PStep g w w1) {k : Nat} {o : Obj} (hk : w.heap[k]? = some o) (ho : Off w g k) : w1.heap[k]? = some o := (h.blk k (blk_lt hk) ho).trans hk
theorem PStep.below {g B : Nat} {w w1 : World} (h : PStep g w w1) (hg : B ≤ g) (hb : ∀ b, bufOf w g = some b → B ≤ b) (hB : B ≤ w.heap.size) : Below B w w1 := ⟨h.os, h.tape, h.output, h.size, fun k hk => h.blk k (Nat.lt_of_lt_of_le hk hB) ⟨by omega, fun e => by have := hb k e.symm; omega⟩⟩
def PenAt (w : World) (B g : Nat) (l : S) (c : Nat) (most left : Int) : Prop :=
  B ≤ g ∧ ∃ p v, (p = .pointer none ∨ p = .pointer (some ⟨g, 0, none⟩)) ∧ w.heap[g]? = some (.cells #[p, v, .int .u8 c, .int .i64 most, .int .i64 left] 80 (0, 0)) ∧ w.ownsRow B 5 1 v l.length (Lib.byteCells l) ∧ (l = [] → v = .slice none 0 0)
theorem PenAt.lt {w : World} {B g : Nat} {l : S} {c : Nat} {most left : Int} (h : PenAt w B g l c most left) : g < w.heap.size := by obtain ⟨_, p, v, _, hb, _⟩ := h; exact blk_lt hb
theorem PenAt.below {w w1 : World} {B g : Nat} {l : S} {c : Nat} {most left : Int} (h : PenAt w B g l c most left) (hb : Below w.heap.size w w1) : PenAt w1 B g l c most left := by
  obtain ⟨hB, p, v, hp, hk, ho, hn⟩ := h
  exact ⟨hB, p, v, hp, blk_below hk hb, pw_own_below ho hb, hn⟩
theorem PenAt.bufB {w : World} {B g : Nat} {l : S} {c : Nat} {most left : Int} (h : PenAt w B g l c most left) : ∀ b, bufOf w g = some b → B ≤ b := by
  obtain ⟨hB, p, v, hp, hk, ho, hn⟩ := h
  intro b hb
  have : w.cell? ⟨g, 1, none⟩ = some v := (blk_cell hk 1).trans rfl
  unfold bufOf at hb
  rw [this] at hb
  exact own_base ho b hb
theorem PStep.belowP {w w1 : World} {B g : Nat} {l : S} {c : Nat} {most left : Int} (h : PStep g w w1) (hp : PenAt w B g l c most left) (hB : B ≤ w.heap.size) : Below B w w1 := h.below hp.1 hp.bufB hB
theorem own_neB {w : World} {B : Nat} {v : Value} {n : Nat} {xs : List Value} {b t : Nat} {cs : Array Value} (hown : w.ownsRow B 5 1 v n xs) (hb : w.heap[b]? = some (.cells cs t (0, 0))) (ht : t ≠ 5) : v.ownBlock ≠ some b := by
  intro h
  obtain ⟨cells, hc⟩ := own_typed hown b h
  rw [hc] at hb
  simp only [Option.some.injEq, Obj.cells.injEq] at hb
  exact ht hb.2.1.symm
theorem sizeBld : (Tryz.prog.info? 78).map (·.size) = some 2 := by kernel_rfl
theorem infoByte : (Tryz.prog.info? 5).map (fun i => (i.zero, i.size, i.bytes)) = some (some (.int .u8 0), 1, 1) := by kernel_rfl
set_option maxRecDepth 100000 in
theorem pcheck0 (g : Nat) (w : World) (v x2 x3 x4 : Value) (hb : w.heap[g]? = some (.cells #[.pointer none, v, x2, x3, x4] 80 (0, 0))) :
    Calls Tryz.prog 145 #[.pointer (some ⟨g, 0, none⟩)] w fun e w' => e = .returned (.tuple #[]) ∧ w' = w.setCell ⟨g, 0, none⟩ (.pointer (some ⟨g, 0, none⟩)) := by
  obtain ⟨j, hj, hjs⟩ := Option.map_eq_some_iff.1 sizeBld
  have h0 : w.cell? ⟨g, 0, none⟩ = some (.pointer none) := (blk_cell hb 0).trans rfl
  have hfz := blk_frozen hb 0
  have hsh : w.shape? g = some (80, 5) := by simp [World.shape?, hb]
  clear hb
  go_enter Tryz.func145, Tryz.ntmps145
  go_wp2
  rw [Lib.run_to_unsafe w ⟨g, 0, none⟩ Tryz.underlying75 Tryz.underlying162 hj (by rw [hjs]; decide) hsh (show (0 : Nat) < 5 by decide)]
  simp only [Result.andThen]
  rw [Oper.upon_value]
  go_wp2
  rw [run_callFunc_extern Tryz.func177 (by kernel_rfl) (by kernel_rfl) (by kernel_rfl) (e := Extern.AbiNoEscape.same) (by kernel_rfl)]
  rw [Lib.run_noEscape]
  simp only [Result.andThen]
  rw [Oper.upon_value]
  go_wp2
  rw [Lib.run_from_unsafe w ⟨g, 0, none⟩ Tryz.underlying162 Tryz.underlying75 hj hsh (by kernel_rfl)]
  simp only [Result.andThen]
  rw [Oper.upon_value]
  go_wp2
  go_end0
  exact ⟨rfl, rfl⟩
set_option maxRecDepth 100000 in
theorem pcheck1 (g : Nat) (w : World) (h0 : w.cell? ⟨g, 0, none⟩ = some (.pointer (some ⟨g, 0, none⟩))) :
    Calls Tryz.prog 145 #[.pointer (some ⟨g, 0, none⟩)] w fun e w' => e = .returned (.tuple #[]) ∧ w' = w := by
  obtain ⟨j, hj, _⟩ := Option.map_eq_some_iff.1 sizeBld
  go_enter Tryz.func145, Tryz.ntmps145
  go_wp2
  rw [Lib.run_neq_ptr_same w _ Tryz.underlying75 hj]
  go_wp2
  go_end0
  exact ⟨rfl, rfl⟩
theorem plen_any (g : Nat) (w : World) (B : Nat) (l : S) (c : Nat) (most left : Int) (h : PenAt w B g l c most left) :
    Calls Tryz.prog 185 #[.pointer (some ⟨g, 0, none⟩)] w fun e w' => e = .returned (.int .i64 l.length) ∧ w = w' := by
  obtain ⟨hB, p, v, hp, hk, ho, hn⟩ := h
  obtain ⟨A, cp, rfl⟩ : ∃ A cp, v = .slice A l.length cp := by
    rcases ho.2 with ⟨hv, h0⟩ | ⟨gg, cap, cur, hv, _⟩
    · exact ⟨none, 0, by rw [hv, h0]⟩
    · exact ⟨_, cap, hv⟩
  have h1 : w.cell? ⟨g, 1, none⟩ = some (.slice A l.length cp) := (blk_cell hk 1).trans rfl
  clear hk ho hn hp
  go_enter Tryz.func185, Tryz.ntmps185
  go_wp2
  go_ret
  exact ⟨rfl, rfl⟩
section
variable {P : Program} {w : World}
theorem append_str_hat (base : Nat) (t u ty e : TypeId) (i : TypeInfo) (ht : P.underlying t = some (.slice e)) (hu : P.underlying u = some .string) (hi : P.info? e = some i) (hz : i.zero = some (.int .u8 0))
    (hsize : i.size = 1) (hby : i.bytes = 1) (v : Value) (n : Nat) (xs : List Value) (hown : w.ownsRow base e 1 v n xs) (s : ByteArray) (h63 : n + s.size ≤ maxLen) (hbytes : n + s.size ≤ 140737488355328) (v' : Value) (w' : World)
    (hr : (Builtin.append_ #[t, u] ty #[v, .string s]).run P w = .ok v' w') : v'.ownBlock = v.ownBlock ∨ ∃ b, v'.ownBlock = some b ∧ w.heap.size ≤ b := by
  have hsmall : n + s.size ≤ 9223372036854775807 := by simp only [maxLen] at h63; omega
  have hxl : xs.length = n := by simpa using hown.1
  rcases hown.2 with ⟨rfl, rfl⟩ | ⟨g, cap, cur, rfl, hbg, hg, hnc, hcm, hcs, htake⟩
  · by_cases hm : s.size = 0
    · have hf := Lib.run_firstCells_string (P := P) w 1 s
      rw [hm] at hf
      have h1 : (Builtin.append_ #[t, u] ty #[.slice none 0 0, .string s]).run P w = .ok (.slice none 0 0) w := by
        simp [Builtin.append_, run_underlying ht, run_underlying hu, sizeOf, typeInfo, hi, hsize, Builtin.lenOf, hm, hf]
      rw [h1] at hr
      injection hr with h2 h3
      subst h2
      exact .inl rfl
    · have h1 := run_append_nil_string (P := P) w t u ty e i (.int .u8 0) ht hu hi hz s (by omega) (by omega) (by rw [hby]; omega)
      rw [h1] at hr
      injection hr with h2 h3
      subst h2
      exact .inr ⟨w.heap.size, by simp [Value.ownBlock], Nat.le_refl _⟩
  · by_cases hroom : n + s.size ≤ cap
    · have hcs' : cur.size = cap := by simpa using hcs
      have h1 := Lib.run_append_room_string (P := P) (w := w) t u ty e i ht hu hi hsize g n cap cur hg s hroom (by omega)
      rw [h1] at hr
      injection hr with h2 h3
      subst h2
      exact .inl rfl
    · have holds : ∀ j u, xs[j]? = some u → w.cell? ((⟨g, 0, none⟩ : Addr).add j) = some u := hown.cells (g := g) rfl
      have h1 := Lib.run_append_grow_string (P := P) (w := w) t u ty e i (.int .u8 0) ht hu hi hz ⟨g, 0, none⟩ n cap xs (by rw [hsize]; simpa using hxl) holds s (by omega) (by omega) (by rw [hby]; exact growslice_fits (by omega) (by omega))
      rw [h1] at hr
      injection hr with h2 h3
      subst h2
      exact .inr ⟨w.heap.size, by simp [Value.ownBlock], Nat.le_refl _⟩
def HatB (w : World) (v v' : Value) (s : ByteArray) : Prop := (v' = .slice none 0 0 ↔ v = .slice none 0 0 ∧ s.size = 0) ∧ (v'.ownBlock = v.ownBlock ∨ ∃ b, v'.ownBlock = some b ∧ w.heap.size ≤ b)
theorem wpList_append_str {ops : Array Oper} {rest : List Oper} {o : Oper} {a : Act} {Q : Exit → Act → World → Prop} (hgd : o.guard = none) (sl x : Operand) (t u : TypeId)
    (ho : o.op = .call { callee := .builtin .append, args := #[sl, x], argTypes := #[t, u] })
    (base : Nat) (e : TypeId) (i : TypeInfo) (ht : P.underlying t = some (.slice e)) (hu : P.underlying u = some .string) (hi : P.info? e = some i) (hz : i.zero = some (.int .u8 0))
    (hsize : i.size = 1) (hby : i.bytes = 1) (v : Value) (n : Nat) (xs : List Value) (hs : a.eval sl = v) (hown : w.ownsRow base e 1 v n xs) (s : ByteArray) (hx : a.eval x = .string s)
    (h63 : n + s.size ≤ maxLen) (hbytes : n + s.size ≤ 140737488355328) (hbase : base ≤ w.heap.size)
    (h : ∀ v' w', w'.ownsRow base e 1 v' (n + s.size) (xs ++ Lib.strCells s) → w.grownBy w' v.ownBlock → HatB w v v' s → wpList P ops Q rest (a.put o.dst v') w') : wpList P ops Q (o :: rest) a w := by
  refine wpList_plain hgd fun K hK => ?_
  obtain ⟨v', w', hr, h2, h3, h4⟩ := Lib.run_append_own_string (P := P) (w := w) base t u o.type e i ht hu hi hz hsize hby v n xs hown s h63 hbytes hbase
  have h5 := append_str_hat (P := P) (w := w) base t u o.type e i ht hu hi hz hsize hby v n xs hown s h63 hbytes v' w' hr
  unfold Oper.wp execOp
  simp only [ho, resolve, invoke, builtin, Sem.run_bind, Sem.run_pure, Result.andThen_ok, List.map_toArray, List.map_cons, List.map_nil, hs, hx, hr]
  exact hK _ _ (h v' w' h2 h3 ⟨h4, h5⟩)
end
theorem pstep_put {g : Nat} {w1 w2 : World} {v v' : Value} {cs : Array Value} {t : TypeId} (hk : w1.heap[g]? = some (.cells cs t (0, 0))) (h1 : cs[1]? = some v) (hsz : 1 < cs.size) (hg : w1.grownBy w2 v.ownBlock) (hne : v.ownBlock ≠ some g) (hat : v'.ownBlock = v.ownBlock ∨ ∃ b, v'.ownBlock = some b ∧ w1.heap.size ≤ b) : PStep g w1 (w2.setCell ⟨g, 1, none⟩ v') := by
  have hc1 : w1.cell? ⟨g, 1, none⟩ = some v := (blk_cell hk 1).trans h1
  have hb1 : bufOf w1 g = v.ownBlock := by unfold bufOf; rw [hc1]; rfl
  have hk2 : w2.heap[g]? = some (.cells cs t (0, 0)) := (hg.block g (blk_lt hk) (fun e => hne e.symm)).trans hk
  have hc2 : (w2.setCell ⟨g, 1, none⟩ v').cell? ⟨g, 1, none⟩ = some v' := by
    have := blk_put hk2 1 v' rfl
    rw [blk_cell this 1]
    simp [hsz]
  have hb2 : bufOf (w2.setCell ⟨g, 1, none⟩ v') g = v'.ownBlock := by unfold bufOf; rw [hc2]; rfl
  refine ⟨hg.os, hg.tape, hg.output, by simpa [World.setCell] using hg.size, fun k hk' ho => ?_, by rw [hb1, hb2]; exact hat⟩
  rw [Below.heap_setCell _ _ _ _ ho.1]
  exact hg.block k hk' (by rw [← hb1]; exact ho.2)
set_option maxHeartbeats 2000000 in
set_option maxRecDepth 100000 in
theorem pwrite_any (g B : Nat) (l s : S) (c : Nat) (most left : Int) (w : World) (h : PenAt w B g l c most left) (hl : l.length + s.length ≤ 1000000000) (hBw : B ≤ w.heap.size) :
    Calls Tryz.prog 98 #[.pointer (some ⟨g, 0, none⟩), .string (bs s)] w fun e w' => e = .returned (.tuple #[.int .i64 s.length, .nilIface]) ∧ PenAt w' B g (l ++ s) c most left ∧ PStep g w w' := by
  obtain ⟨i0, hi, hz0, hz1, hz2⟩ := info_parts infoByte
  -- behind the check
  have hck : Calls Tryz.prog 145 #[.pointer (some ⟨g, 0, none⟩)] w fun e w' => e = .returned (.tuple #[]) ∧ ∃ v, w'.heap[g]? = some (.cells #[.pointer (some ⟨g, 0, none⟩), v, .int .u8 c, .int .i64 most, .int .i64 left] 80 (0, 0)) ∧ w'.ownsRow B 5 1 v l.length (Lib.byteCells l) ∧ (l = [] → v = .slice none 0 0) ∧ PStep g w w' := by
    obtain ⟨hB, p, v, hp, hk, ho, hn⟩ := h
    rcases hp with rfl | rfl
    · refine (pcheck0 g w v _ _ _ hk).mono ?_
      rintro e w' ⟨rfl, rfl⟩
      have hne := own_neB ho hk (by decide)
      refine ⟨rfl, v, blk_put hk 0 _ rfl, own_other ho (row := some g) ⟨rfl, rfl, rfl, by simp [World.setCell], fun k _ hk => Below.heap_setCell _ _ _ _ (fun e => hk (by simp [e]))⟩ (.inr hne), hn, ?_⟩
      refine ⟨rfl, rfl, rfl, by simp [World.setCell], fun k _ hk => Below.heap_setCell _ _ _ _ hk.1, .inl ?_⟩
      unfold bufOf
      rw [(blk_cell hk 1).trans rfl, (blk_cell (blk_put hk 0 (.pointer (some ⟨g, 0, none⟩)) rfl) 1).trans rfl]
      rfl
    · refine (pcheck1 g w ((blk_cell hk 0).trans rfl)).mono ?_
      rintro e w' ⟨rfl, rfl⟩
      exact ⟨rfl, v, hk, ho, hn, PStep.refl _ _⟩
  have HBg := Aside0.mk h.1
  clear h
  go_enter Tryz.func98, Tryz.ntmps98
  go_wp2_with fail
  refine hck.mono ?_
  rintro e w1 ⟨rfl, v, hk, ho, hn, hp⟩
  clear hck
  have c1 : w1.cell? ⟨g, 1, none⟩ = some v := (blk_cell hk 1).trans rfl
  have HK := Aside0.mk hk
  have HO := Aside0.mk ho
  have HN := Aside0.mk hn
  have HP := Aside0.mk hp
  have hb3 : l.length + (bs s).size ≤ maxLen := by rw [bs_size]; unfold maxLen; omega
  have hb4 : l.length + (bs s).size ≤ 140737488355328 := by rw [bs_size]; omega
  have hb5 : B ≤ w1.heap.size := Nat.le_trans hBw hp.size
  clear hk ho hn hp
  go_wp2_with (at_builtin; refine wpList_append_str rfl _ _ 76 9 rfl B 5 i0 Tryz.underlying76 Tryz.underlying9 hi hz0 hz1 hz2 v l.length (Lib.byteCells l) rfl HO.out (bs s) rfl ?c3 ?c4 ?c5 ?_)
  case c3 => exact hb3
  case c4 => exact hb4
  case c5 => exact hb5
  intro v' w2 hown' hgrow hat
  have hne := own_neB HO.out HK.out (by decide)
  have hk2 : w2.heap[g]? = some (.cells #[.pointer (some ⟨g, 0, none⟩), v, .int .u8 c, .int .i64 most, .int .i64 left] 80 (0, 0)) := (hgrow.block g (blk_lt HK.out) (fun e => hne e.symm)).trans HK.out
  have HK2 := Aside0.mk hk2
  have d1 : w2.cell? ⟨g, 1, none⟩ = some v := (blk_cell hk2 1).trans rfl
  have f1 := blk_frozen hk2 1
  have HW := Aside0.mk hown'
  have HGR := Aside0.mk hgrow
  have HAT := Aside0.mk hat
  clear hk2 hown' hgrow hat
  obtain ⟨ao, n', cap, rfl⟩ : ∃ ao n' cap, v' = .slice ao n' cap := by
    rcases HW.out.2 with ⟨hv, _⟩ | ⟨g', cap, cur, hv, _⟩
    · exact ⟨_, _, _, hv⟩
    · exact ⟨_, _, _, hv⟩
  go_wp2
  go_ret2
  have e1 : Lib.byteCells l ++ Lib.strCells (bs s) = Lib.byteCells (l ++ s) := by simp [Lib.byteCells, Lib.strCells, bs]
  have hown2 := HW.out
  rw [e1, bs_size, ← List.length_append] at hown2
  have hne2 := own_neB hown2 HK2.out (by decide)
  refine ⟨by rw [← bs_size]; rfl, ⟨HBg.out, _, _, .inr rfl, blk_put HK2.out 1 _ rfl, own_other hown2 (row := some g) ⟨rfl, rfl, rfl, by simp [World.setCell], fun k _ hk => Below.heap_setCell _ _ _ _ (fun e => hk (by simp [e]))⟩ (.inr hne2), fun h0 => ?_⟩, HP.out.trans (pstep_put HK.out rfl (Nat.lt_of_sub_eq_succ rfl) HGR.out hne HAT.out.2)⟩
  obtain ⟨h1, h2⟩ := List.append_eq_nil_iff.1 h0
  exact HAT.out.1.2 ⟨HN.out h1, by rw [bs_size, h2]; rfl⟩
set_option maxHeartbeats 2000000 in
set_option maxRecDepth 100000 in
/-- (*strings.Builder).String of a pen's builder. -/
theorem pstring_any (g B : Nat) (l : S) (c : Nat) (most left : Int) (w : World) (h : PenAt w B g l c most left) (hBw : B ≤ w.heap.size) :
    Calls Tryz.prog 57 #[.pointer (some ⟨g, 0, none⟩)] w fun e w' => e = .returned (.string (bs l)) ∧ Below B w w' := by
  obtain ⟨hB, p, v, hp, hk, ho, hn⟩ := h
  by_cases h0 : l = []
  · have hv := hn h0
    subst hv
    subst h0
    have hUS : ∀ W : World, (Builtin.unsafeString_ #[125, 3] 9 #[.pointer none, .int .i64 0]).run Tryz.prog W = .ok (.string .empty) W := fun W => Lib.run_unsafeString_none W _ _ _ none
    have c1 : w.drew.cell? ⟨g, 1, none⟩ = some (.slice none 0 0) := (blk_cell (blk_drew hk) 1).trans rfl
    have hSD : ∀ W : World, (Builtin.unsafeSliceData_ #[76] 125 #[.slice none 0 0]).run Tryz.prog W = .ok (.pointer none) W := fun W => rfl
    clear ho hk hn hp
    go_enter Tryz.func57, Tryz.ntmps57
    go_wp2
    go_region
    all_goals (go_wp2; go_ret; exact ⟨rfl, Below.drew (Below.refl B w)⟩)
  · have hl0 : l.length ≠ 0 := by simpa using h0
    obtain ⟨gg, cap, cur, rfl, hbg, hg, hnc, hcm, hcs, htake⟩ : ∃ gg cap cur, v = .slice (some ⟨gg, 0, none⟩) l.length cap ∧ B ≤ gg ∧ w.heap[gg]? = some (.cells cur 5 (0, 0)) ∧ l.length ≤ cap ∧ cap ≤ maxLen ∧ cur.size = cap * 1 ∧ cur.toList.take (l.length * 1) = Lib.byteCells l := by
      rcases ho.2 with ⟨_, hz⟩ | ⟨gg, cap, cur, hv, r⟩
      · exact absurd hz hl0
      · exact ⟨gg, cap, cur, hv, r⟩
    have c1 : w.drew.cell? ⟨g, 1, none⟩ = some (.slice (some ⟨gg, 0, none⟩) l.length cap) := (blk_cell (blk_drew hk) 1).trans rfl
    have hSD : (Builtin.unsafeSliceData_ #[76] 125 #[.slice (some ⟨gg, 0, none⟩) l.length cap]).run Tryz.prog w.drew = .ok (.pointer (some ⟨gg, 0, none⟩)) w.drew :=
      Lib.run_unsafeSliceData_row _ _ _ _ _ _ (by omega)
    have hUS : (Builtin.unsafeString_ #[125, 3] 9 #[.pointer (some ⟨gg, 0, none⟩), .int .i64 l.length]).run Tryz.prog w.drew = .ok (.string ⟨l.toArray⟩) (w.drew.freeze ⟨gg, 0, none⟩ l.length) := by
      refine Lib.run_unsafeString_row w.drew 125 3 9 5 Tryz.underlying125 (by kernel_rfl) gg cur.size (by have hg' : w.drew.heap[gg]? = some (.cells cur 5 (0, 0)) := hg; simp [World.shape?, hg']) l h0 (by omega) (by unfold maxLen at hcm; omega) ?_
      intro j x hx
      have := ho.cells (g := gg) rfl j (.int .u8 x.toNat) (by simp [Lib.byteCells, hx])
      exact this
    have hfr : Below B w (w.drew.freeze ⟨gg, 0, none⟩ l.length) := Lib.below_freeze (Below.drew (Below.refl B w)) (p := ⟨gg, 0, none⟩) hbg _
    have HFR := Aside0.mk hfr
    clear ho hk hn hp hg htake hfr
    go_enter Tryz.func57, Tryz.ntmps57
    go_wp2
    go_region
    all_goals (go_wp2; go_ret; exact ⟨rfl, HFR.out⟩)
end Go.Proofs.YtniibpndgcndbaaGreatDoor.Tpl
namespace Go.Proofs.YtniibpndgcndbaaGreatDoor.Tpl
open Go.RowKit Go.Proofs Go.Proofs.YtniibpndgcndbaaGreatDoor.PB Go.Proofs.YtniibpndgcndbaaGreatDoor.Short Go.Proofs.YtniibpndgcndbaaGreatDoorW.PrintWords Go.Proofs.YtniibpndgcndbaaGreatDoorW.PrintLast Go.Proofs.YtniibpndgcndbaaGreatDoorW.PrintMore Vals
abbrev rObj (x : Val) (A3 : Option Addr) (c3 : Nat) (A4 : Option Addr) (c4 : Nat) (nx : Option Addr) : Obj := .cells #[.int .u8 x.k, .string (bs x.t), .int .i64 x.n, .slice A3 x.i.len c3, .slice A4 x.m.length c4, .pointer nx] 87 (0, 0)
def Rounds (w : World) (ok : Nat → Prop) : Option Addr → List Val → Prop
  | a, [] => a = none
  | a, x :: r => ∃ b A3 c3 A4 c4 nx, a = some ⟨b, 0, none⟩ ∧ ok b ∧ w.heap[b]? = some (rObj x A3 c3 A4 c4 nx) ∧ RV w ok x A3 c3 A4 c4 ∧ Rounds w ok nx r
theorem Rounds.mono {w : World} {ok ok' : Nat → Prop} (hk : ∀ k, ok k → ok' k) : ∀ {rd : List Val} {a : Option Addr}, Rounds w ok a rd → Rounds w ok' a rd
  | [], _, h => h
  | _ :: _, _, ⟨b, A3, c3, A4, c4, nx, e, hb, hh, hv, hr⟩ => ⟨b, A3, c3, A4, c4, nx, e, hk b hb, hh, hv.mono hk, Rounds.mono hk hr⟩
theorem Rounds.step {w w1 : World} {ok : Nat → Prop} (hm : ∀ k, ok k → k < w.heap.size → w1.heap[k]? = w.heap[k]?) : ∀ {rd : List Val} {a : Option Addr}, Rounds w ok a rd → Rounds w1 (fun k => ok k ∧ k < w.heap.size) a rd
  | [], _, h => h
  | _ :: _, _, ⟨b, A3, c3, A4, c4, nx, e, hb, hh, hv, hr⟩ => ⟨b, A3, c3, A4, c4, nx, e, ⟨hb, blk_lt hh⟩, (hm b hb (blk_lt hh)).trans hh, hv.step hm, Rounds.step hm hr⟩
theorem Rounds.below {w w1 : World} {ok : Nat → Prop} {rd : List Val} {a : Option Addr} (h : Rounds w ok a rd) (hb : Below w.heap.size w w1) : Rounds w1 ok a rd := (h.step (fun k _ hk => hb.block k hk)).mono (fun _ hk => hk.1)
theorem RV.below {w w1 : World} {ok : Nat → Prop} {x : Val} {A3 : Option Addr} {c3 : Nat} {A4 : Option Addr} {c4 : Nat} (h : RV w ok x A3 c3 A4 c4) (hb : Below w.heap.size w w1) : RV w1 ok x A3 c3 A4 c4 := (h.step (fun k _ hk => hb.block k hk)).mono (fun _ hk => hk.1)
theorem Rounds.pstep {w w1 : World} {g : Nat} {rd : List Val} {a : Option Addr} (h : Rounds w (Off w g) a rd) (hp : PStep g w w1) : Rounds w1 (Off w1 g) a rd := (h.step (fun k hk hl => hp.blk k hl hk)).mono (fun _ hk => hk.1.step hp hk.2)
theorem RV.pstep {w w1 : World} {g : Nat} {x : Val} {A3 : Option Addr} {c3 : Nat} {A4 : Option Addr} {c4 : Nat} (h : RV w (Off w g) x A3 c3 A4 c4) (hp : PStep g w w1) : RV w1 (Off w1 g) x A3 c3 A4 c4 := (h.step (fun k hk hl => hp.blk k hl hk)).mono (fun _ hk => hk.1.step hp hk.2)
def Val.fit (x : Val) : Prop := x.sm ∧ x.i.cnt ≤ 1048576
theorem fit_of {x : Val} (h : x.ok = true ∧ x.sm) : x.fit := ⟨h.2, by have := ((chkV_iff _ _ _ _ _).1 h.1).2.2; omega⟩
theorem RdS.tail {w : World} {b off c : Nat} {s : S} {p : List S} (h : RdS w (some ⟨b, off, none⟩) c (s :: p)) : RdS w (if c = 1 then some ⟨b, off, none⟩ else some ⟨b, off + 1, none⟩) (c - 1) p := by
  have hl := h.2
  simp only [List.length_cons] at hl
  refine ⟨?_, by omega⟩
  by_cases hp : p = []
  · subst hp; exact C_none _ _ _ rfl
  · have hp1 : 0 < p.length := List.length_pos_iff.2 hp
    rw [if_neg (by omega)]
    have := C_drop (i := 1) h.1 (by simp)
    simpa using this
theorem upP_cons (s : S) (p : List S) (x : Val) (r : List Val) : upP s p (x :: r) = match FindP x [s] with | .ok y => FindP y p | .error _ => upP s p r := rfl
def ResV (o : Except Int Val) (ok : Nat → Prop) (w' : World) (x : Val) (k : Int) (E3 : Option Addr) (f3 : Nat) (E4 : Option Addr) (f4 : Nat) : Prop :=
  RV w' ok x E3 f3 E4 f4 ∧ match o with | .ok y => x = y ∧ k = 0 | .error j => k = j ∧ x = Val.zero ∧ E3 = none ∧ f3 = 0 ∧ E4 = none ∧ f4 = 0
theorem rv_zero (w : World) (ok : Nat → Prop) : RV w ok Val.zero none 0 none 0 := ⟨⟨Kd.F_nil _ _ _, Nat.le_refl _⟩, ⟨Kd.F_nil _ _ _, Nat.le_refl _⟩⟩
theorem FindRet.uni {o : Except Int Val} {ok : Nat → Prop} {w w' : World} {e : Ending} (h : FindRet o ok w e w') : Below w.heap.size w w' ∧ ∃ x k E3 f3 E4 f4, e = .returned (.tuple #[vAgg x E3 f3 E4 f4, .int .i64 k]) ∧ ResV o (fun q => ok q ∨ w.heap.size ≤ q) w' x k E3 f3 E4 f4 := by
  obtain ⟨hb, h⟩ := h
  cases o with
  | error j => exact ⟨hb, Val.zero, j, none, 0, none, 0, h, rv_zero _ _, rfl, rfl, rfl, rfl, rfl, rfl⟩
  | ok y => obtain ⟨A3, c3, A4, c4, he, hr⟩ := h; exact ⟨hb, y, 0, A3, c3, A4, c4, he, hr, rfl, rfl⟩
theorem ResV.ret {o : Except Int Val} {ok ok' : Nat → Prop} {w w' : World} {x : Val} {k : Int} {E3 : Option Addr} {f3 : Nat} {E4 : Option Addr} {f4 : Nat} (h : ResV o ok w' x k E3 f3 E4 f4) (hb : Below w.heap.size w w') (hk : ∀ q, ok q → ok' q ∨ w.heap.size ≤ q) : FindRet o ok' w (.returned (.tuple #[vAgg x E3 f3 E4 f4, .int .i64 k])) w' := by
  obtain ⟨h1, h2⟩ := h
  refine ⟨hb, ?_⟩
  cases o with
  | error j => obtain ⟨rfl, rfl, rfl, rfl, rfl, rfl⟩ := h2; rfl
  | ok y => obtain ⟨rfl, rfl⟩ := h2; exact ⟨E3, f3, E4, f4, rfl, h1.mono hk⟩
theorem ResV.step {o : Except Int Val} {ok : Nat → Prop} {w w1 : World} {x : Val} {k : Int} {E3 : Option Addr} {f3 : Nat} {E4 : Option Addr} {f4 : Nat} (h : ResV o ok w x k E3 f3 E4 f4) (hm : ∀ q, ok q → q < w.heap.size → w1.heap[q]? = w.heap[q]?) : ResV o ok w1 x k E3 f3 E4 f4 := ⟨(h.1.step hm).mono (fun _ hq => hq.1), h.2⟩
abbrev zObj : Obj := .cells #[.int .u8 0, .string ⟨#[]⟩, .int .i64 0, .slice none 0 0, .slice none 0 0] 43 (0, 0)
theorem lit_at {V : World} {n : Nat} {s : S} (h : V.heap[n]? = some (.cells #[.string (bs s)] 9 (0, 0))) : RdS V (some ⟨n, 0, none⟩) 1 [s] := by
  refine ⟨⟨rfl, by simp, fun _ => ⟨_, rfl, fun j x hj => ?_⟩⟩, Nat.le_refl _⟩
  cases j with
  | succ j => simp at hj
  | zero =>
    simp at hj
    subst hj
    refine ⟨[.string (bs s)], rfl, rfl, fun i u hu => ?_⟩
    have hi : i = 0 := by have := (List.getElem?_eq_some_iff.1 hu).1; simp at this; omega
    subst hi
    simp at hu
    subst hu
    have e : (⟨n, 0, none⟩ : Addr).add (0 * Kd.sz Kd.string + 0) = ⟨n, 0, none⟩ := rfl
    rw [e]
    exact (blk_cell h 0).trans rfl
abbrev litB (s : S) : Obj := .cells #[.string (bs s)] 9
def UpMid (o : Except Int Val) (okk : Nat → Prop) (wr : World) (s6 s7 : Value) (wx : World) : Prop :=
  ∃ bx x k E3 f3 E4 f4, s6 = .pointer (some ⟨bx, 0, none⟩) ∧ s7 = .int .i64 k ∧ wx.heap[bx]? = some (vObj x.k x.t x.n x.i x.m E3 f3 E4 f4) ∧ ResV o (fun q => okk q ∨ wr.heap.size ≤ q) wx x k E3 f3 E4 f4 ∧ Below wr.heap.size wr wx
theorem up_new {o : Except Int Val} {okk : Nat → Prop} {wr V w2 : World} {x : Val} {k : Int} {E3 : Option Addr} {f3 : Nat} {E4 : Option Addr} {f4 : Nat} (hV : Below wr.heap.size wr V) (hb : Below V.heap.size V w2) (h : ResV o (fun q => okk q ∨ V.heap.size ≤ q) w2 x k E3 f3 E4 f4) :
    UpMid o okk wr (.pointer (some ⟨w2.heap.size, 0, none⟩)) (.int .i64 k) (w2.alloc (vObj x.k x.t x.n x.i x.m E3 f3 E4 f4)) := by
  have hb2 := below_alloc (Below.refl w2.heap.size w2) (vObj x.k x.t x.n x.i x.m E3 f3 E4 f4)
  refine ⟨w2.heap.size, x, k, E3, f3, E4, f4, rfl, rfl, blk_new _ _, ⟨(h.step (fun q _ hq => hb2.block q hq)).1.mono (fun q hq => ?_), h.2⟩, below_step hV (below_step hb hb2)⟩
  rcases hq with hq | hq
  · exact .inl hq
  · exact .inr (Nat.le_trans hV.size hq)
theorem up_old {o : Except Int Val} {okk : Nat → Prop} {wr V w2 : World} {bx : Nat} {x : Val} {k : Int} {E3 : Option Addr} {f3 : Nat} {E4 : Option Addr} {f4 : Nat} (hV : Below wr.heap.size wr V) (hb : Below V.heap.size V w2) (h : ResV o (fun q => okk q ∨ V.heap.size ≤ q) w2 x k E3 f3 E4 f4)
    (hz : V.heap[bx]? = some zObj) (hx : wr.heap.size ≤ bx) (hok : ¬ okk bx) :
    UpMid o okk wr (.pointer (some ⟨bx, 0, none⟩)) (.int .i64 k) (put5 w2 bx 0 (.int .u8 x.k) (.string (bs x.t)) (.int .i64 x.n) (.slice E3 x.i.len f3) (.slice E4 x.m.length f4)) := by
  have hlt := blk_lt hz
  refine ⟨bx, x, k, E3, f3, E4, f4, rfl, rfl, put5_blk (blk_below hz hb), ⟨(h.step (fun q hq _ => put5_far (fun e => ?_))).1.mono (fun q hq => ?_), h.2⟩, put5_below (below_step hV hb) hx⟩
  · rcases hq with hq | hq
    · exact hok (e ▸ hq)
    · omega
  · rcases hq with hq | hq
    · exact .inl hq
    · exact .inr (Nat.le_trans hV.size hq)
set_option maxHeartbeats 1000000 in
set_option maxRecDepth 100000 in
theorem rfind_any (a : Option Addr) (rd : List Val) (ok : Nat → Prop) (Ap : Option Addr) (cp : Nat) (path : List S) (w : World) (hne : rd ≠ []) (hR : Rounds w ok a rd) (hf : ∀ x, x ∈ rd → x.fit) (hP : RdS w Ap cp path) (hp : path.length ≤ 1048576) :
    Calls Tryz.prog 62 #[.pointer a, .slice Ap path.length cp] w (FindRet (meansP path rd) ok w) := by
  obtain ⟨o, ho⟩ : ∃ o, meansP path rd = o := ⟨_, rfl⟩
  rw [ho]
  have HO := Aside0.mk ho
  clear ho
  have hb1 := below_alloc (Below.refl w.heap.size w) zBox
  have BK1 := blk_new w zBox
  have HR := Aside0.mk (hR.step (fun k _ hk => hb1.block k hk))
  have HF := Aside0.mk hf
  have HP := Aside0.mk (RdS.below hP hb1)
  have HB1 := Aside0.mk hb1
  clear hR hf hP hb1
  go_enter Tryz.func62, Tryz.ntmps62
  go_upto_region 1 with (fail)
  generalize w.alloc zBox = W at BK1 HR HP HB1 ⊢
  obtain ⟨b1, hb1⟩ : ∃ b, w.heap.size = b := ⟨_, rfl⟩
  have Hb1 := Aside0.mk hb1
  rw [hb1] at BK1 ⊢
  have hle1 : w.heap.size ≤ b1 := Nat.le_of_eq hb1
  clear hb1
  have HK1 := Aside0.mk BK1
  have hlt1 : b1 < W.heap.size := blk_lt BK1
  obtain ⟨z0, z1, z2, z3, z4, f0, f1, f2, f3, f4⟩ := cells_5 BK1
  clear BK1
  cases path with
  | nil =>
    have ho' : Except.error 3 = o := HO.out
    subst ho'
    go_wp2
    refine bodyPost_ret (results_ct rfl _ _ b1 43 #[.int .u8 0, .string ⟨#[]⟩, .int .i64 0, .slice none 0 0, .slice none 0 0] (0, 0) _ rfl (put5_blk HK1.out) Tryz.underlying43 rfl (by kernel_rfl)) rfl ?_
    exact ⟨put5_below HB1.out hle1, rfl⟩
  | cons s p =>
    obtain ⟨bp, op, rfl, hcs⟩ := cellS HP.out 0 (by simp)
    simp only [Nat.add_zero, List.getD_cons_zero] at hcs
    have hpl : (0 : Int) < (((s :: p).length : Nat) : Int) := by simp
    have hpn : 0 < (s :: p).length := by simp
    have HT := Aside0.mk (RdS.tail HP.out)
    have hcap : (s :: p).length ≤ cp := HP.out.2
    have hcp1 : (1 : Int) ≤ (cp : Int) := by simp at hcap; omega
    have hcpl : (((s :: p).length : Nat) : Int) ≤ (cp : Int) := by omega
    have hpp : p.length ≤ 1048576 := by simp at hp; omega
    obtain ⟨i0, hi, hz0, hz1, hz2⟩ := info_parts info_str
    have hcut := cut_from (P := Tryz.prog) 23 9 .i64 Tryz.underlying23 hi 1 hz1 (some ⟨bp, op, none⟩) (s :: p).length cp 1 (by omega) (by simp; omega)
    obtain ⟨X, hX⟩ : ∃ X, (if cp = 1 then some ⟨bp, op, none⟩ else some ⟨bp, op + 1, none⟩ : Option Addr) = X := ⟨_, rfl⟩
    have hX' : (if cp = (1 : Int).toNat then (some ⟨bp, op, none⟩ : Option Addr) else (some ⟨bp, op, none⟩ : Option Addr).map (·.add ((1 : Int).toNat * 1))) = X := by
      rw [← hX]
      have e : (⟨bp, op, none⟩ : Addr).add 1 = ⟨bp, op + 1, none⟩ := add_at _ _ _
      show (if cp = 1 then _ else some ((⟨bp, op, none⟩ : Addr).add 1)) = _
      rw [e]
    rw [hX'] at hcut
    have hcut' : ∀ W : World, (Instr.slice 23 (.slice (some ⟨bp, op, none⟩) (s :: p).length cp) (some (.int .i64 1)) none none).run Tryz.prog W = .ok (.slice X p.length (cp - 1)) W := hcut
    rw [hX] at HT
    clear hcut hX hX' hi hz0 hz1 hz2 hcap
    generalize (s :: p).length = n at *
    have hn0 : ((n : Int) == 0) = false := by rw [beq_eq_false_iff_ne]; omega
    by_cases hs : s = thisS
    · have e0 : ((bs s).toList == [116, 104, 105, 115]) = true := by rw [bs_list, beq_iff_eq]; exact hs
      have HS := Aside0.mk hs
      clear hs
      cases rd with
      | nil => exact absurd rfl hne
      | cons x r =>
        obtain ⟨b, A3, c3, A4, c4, nx, rfl, hok, hb, hv, hr⟩ := HR.out
        have y5 : W.cell? ⟨b, 5, none⟩ = some (.pointer nx) := (blk_cell hb 5).trans rfl
        have hne1 : b1 ≠ b := by have := hok.2; have := Hb1.out; omega
        cases r with
        | nil =>
          have hnx : nx = none := hr
          subst hnx
          have ho' : Except.error 3 = o := by rw [← HO.out, HS.out, meansP_one]
          subst ho'
          clear hb hv hr
          go_wp2
          refine bodyPost_ret (results_ct rfl _ _ b1 43 #[.int .u8 0, .string ⟨#[]⟩, .int .i64 0, .slice none 0 0, .slice none 0 0] (0, 0) _ rfl (put5_blk HK1.out) Tryz.underlying43 rfl (by kernel_rfl)) rfl ?_
          exact ⟨put5_below HB1.out hle1, rfl⟩
        | cons x2 r2 =>
          obtain ⟨b', _, _, _, _, _, rfl, _⟩ := hr
          have ho' : FindP x p = o := by rw [← HO.out, HS.out, meansP_this]
          have HO' := Aside0.mk ho'
          have y0 : W.cell? ⟨b, 0, none⟩ = some (.int .u8 x.k) := (blk_cell hb 0).trans rfl
          have y1 : W.cell? ⟨b, 1, none⟩ = some (.string (bs x.t)) := (blk_cell hb 1).trans rfl
          have y2 : W.cell? ⟨b, 2, none⟩ = some (.int .i64 x.n) := (blk_cell hb 2).trans rfl
          have y3 : W.cell? ⟨b, 3, none⟩ = some (.slice A3 x.i.len c3) := (blk_cell hb 3).trans rfl
          have y4 : W.cell? ⟨b, 4, none⟩ = some (.slice A4 x.m.length c4) := (blk_cell hb 4).trans rfl
          have hfit := HF.out x List.mem_cons_self
          have hfd := fun V (hbv : Below W.heap.size W V) => vfind_any x A3 c3 A4 c4 X (cp - 1) p _ V hfit.1 (hv.below hbv) hfit.2 (RdS.below HT.out hbv) hpp
          clear hb hv hfit ho'
          go_upto_region 6 with (fail)
          go_region_with (go_at_call 89; refine (hfd _ ?_).mono ?_; exact (below_drew (Below.refl _ _)); rintro e w2 hret; obtain ⟨hb2, x2, k2, E3, f3', E4, f4', rfl, hrs⟩ := hret.uni; have K2 := blk_below HK1.out (below_step (below_drew (Below.refl _ _)) hb2); obtain ⟨z0, z1, z2, z3, z4, f0, f1, f2, f3, f4⟩ := cells_5 K2; have hlt2 : b1 < w2.heap.size := blk_lt K2)
          all_goals
            go_wp2
            refine bodyPost_ret (results_ct rfl _ _ b1 43 #[.int .u8 x2.k, .string (bs x2.t), .int .i64 x2.n, .slice E3 x2.i.len f3', .slice E4 x2.m.length f4'] (0, 0) _ rfl (put5_blk K2) Tryz.underlying43 rfl (by kernel_rfl)) rfl ?_
            refine ResV.ret (ok := fun q => (ok q ∧ q < w.heap.size) ∨ W.drew.heap.size ≤ q) (ResV.step (HO'.out ▸ hrs) (fun q hq _ => put5_far (fun e => ?_))) (put5_below (below_step HB1.out (below_step (below_drew (Below.refl _ _)) hb2)) hle1) (fun q hq => ?_)
            · rw [World.size_drew] at hq; have := Hb1.out; rcases hq with hq | hq <;> omega
            · rw [World.size_drew] at hq; have := HB1.out.size; rcases hq with hq | hq; exact .inl hq.1; exact .inr (by omega)
    · have e0 : ((bs s).toList == [116, 104, 105, 115]) = false := by rw [bs_list, beq_eq_false_iff_ne]; exact hs
      have HUP : Aside0 (upP s p rd = o) := ⟨by rw [← HO.out, meansP_up hs]⟩
      obtain ⟨okk, hokk⟩ : ∃ f : Nat → Prop, f = fun q => ok q ∧ q < w.heap.size := ⟨_, rfl⟩
      have HOK := Aside0.mk hokk
      have hok1 : Aside0 (¬ okk b1) := ⟨by rw [hokk]; have := Hb1.out; omega⟩
      have hok2 : Aside0 (∀ q, W.heap.size ≤ q → ¬ okk q) := ⟨fun q hq h => by rw [hokk] at h; have := HB1.out.size; omega⟩
      have HR' : Aside0 (Rounds W okk a rd) := ⟨by rw [hokk]; exact HR.out⟩
      have HPW := Aside0.mk HP.out
      clear hs HO HR hokk
      go_wp2
      go_loopg [0] rd.length (fun gk v wr => ∃ (a' : Option Addr) (rd' : List Val), v = .pointer a' ∧ rd'.length ≤ gk ∧ Aside0 (Rounds wr okk a' rd') ∧ Aside0 (upP s p rd' = o) ∧ Aside0 (∀ x, x ∈ rd' → x.fit) ∧ Aside0 (wr.heap[b1]? = some zObj) ∧ Aside0 (Below W.heap.size W wr))
      case atStart => exact ⟨a, rd, rfl, Nat.le_refl _, HR', HUP, HF, HK1, ⟨Below.refl _ _⟩⟩
      case round =>
        clear z0 z1 z2 z3 z4 f0 f1 f2 f3 f4 HR' HUP HF HK1
        obtain ⟨a', rd', rfl, hgk, HR, HUP, HF, HK1, HBW⟩ := hrel
        have K1 := HK1.out
        obtain ⟨z0, z1, z2, z3, z4, f0, f1, f2, f3, f4⟩ := cells_5 K1
        have hlt1 : b1 < wr.heap.size := blk_lt K1
        clear K1
        cases rd' with
        | nil =>
          have ha : a' = none := HR.out
          subst ha
          have ho' : Except.error 3 = o := HUP.out
          subst ho'
          go_wp2
          refine bodyPost_ret (results_ct rfl _ _ b1 43 #[.int .u8 0, .string ⟨#[]⟩, .int .i64 0, .slice none 0 0, .slice none 0 0] (0, 0) _ rfl (put5_blk HK1.out) Tryz.underlying43 rfl (by kernel_rfl)) rfl ?_
          exact ⟨put5_below (below_step HB1.out HBW.out) hle1, rfl⟩
        | cons x r =>
          obtain ⟨b, A3, c3, A4, c4, nx, rfl, hok, hb, hv, hr⟩ := HR.out
          have y0 : wr.cell? ⟨b, 0, none⟩ = some (.int .u8 x.k) := (blk_cell hb 0).trans rfl
          have y1 : wr.cell? ⟨b, 1, none⟩ = some (.string (bs x.t)) := (blk_cell hb 1).trans rfl
          have y2 : wr.cell? ⟨b, 2, none⟩ = some (.int .i64 x.n) := (blk_cell hb 2).trans rfl
          have y3 : wr.cell? ⟨b, 3, none⟩ = some (.slice A3 x.i.len c3) := (blk_cell hb 3).trans rfl
          have y4 : wr.cell? ⟨b, 4, none⟩ = some (.slice A4 x.m.length c4) := (blk_cell hb 4).trans rfl
          have hcs' := pw_cell_below HBW.out hcs
          have hfit := HF.out x List.mem_cons_self
          have hltb : b < wr.heap.size := blk_lt hb
          have HBB := Aside0.mk hb
          have HNR := Aside0.mk hr
          have HUP2 : Aside0 ((match FindP x [s] with | .ok y => FindP y p | .error _ => upP s p r) = o) := ⟨by rw [← HUP.out, upP_cons]⟩
          have hfd : ∀ (V : World) (n : Nat), Below wr.heap.size wr V → V.heap[n]? = some (litB s) → Calls Tryz.prog 89 #[vAgg x A3 c3 A4 c4, .slice (some ⟨n, 0, none⟩) 1 1] V (FindRet (FindP x [s]) okk V) := fun V n hbv hl => vfind_any x A3 c3 A4 c4 (some ⟨n, 0, none⟩) 1 [s] _ V hfit.1 (hv.below hbv) hfit.2 (lit_at hl) (by simp)
          have BA : Aside0 ((wr.alloc (litB s)).drew.heap[wr.heap.size]? = some (litB s)) := ⟨blk_new wr (litB s)⟩
          have BB : Aside0 (((wr.alloc (litB s)).alloc zBox).drew.heap[wr.heap.size]? = some (litB s)) := ⟨blk_alloc (w := wr.alloc (litB s)) (blk_new wr (litB s)) zBox⟩
          have BC : Aside0 (((wr.alloc zBox).alloc (litB s)).drew.heap[wr.heap.size + 1]? = some (litB s)) := ⟨by have := blk_new (wr.alloc zBox) (litB s); rwa [World.size_alloc] at this⟩
          have BZ1 : Aside0 (((wr.alloc (litB s)).alloc zBox).drew.heap[wr.heap.size + 1]? = some zObj) := ⟨by have := blk_new (wr.alloc (litB s)) zBox; rwa [World.size_alloc] at this⟩
          have BZ2 : Aside0 (((wr.alloc zBox).alloc (litB s)).drew.heap[wr.heap.size]? = some zObj) := ⟨blk_alloc (w := wr.alloc zBox) (blk_new wr zBox) (litB s)⟩
          have BVA : Aside0 (Below wr.heap.size wr (wr.alloc (litB s)).drew) := ⟨below_drew (below_alloc (Below.refl _ _) _)⟩
          have BVB : Aside0 (Below wr.heap.size wr ((wr.alloc (litB s)).alloc zBox).drew) := ⟨below_drew (below_alloc (below_alloc (Below.refl _ _) _) _)⟩
          have BVC : Aside0 (Below wr.heap.size wr ((wr.alloc zBox).alloc (litB s)).drew) := ⟨below_drew (below_alloc (below_alloc (Below.refl _ _) _) _)⟩
          have KP : Aside0 (∀ w' : World, Below wr.heap.size wr w' → w'.cell? ⟨b, 0, none⟩ = some (.int .u8 x.k) ∧ w'.cell? ⟨b, 1, none⟩ = some (.string (bs x.t)) ∧ w'.cell? ⟨b, 2, none⟩ = some (.int .i64 x.n) ∧ w'.cell? ⟨b, 3, none⟩ = some (.slice A3 x.i.len c3) ∧ w'.cell? ⟨b, 4, none⟩ = some (.slice A4 x.m.length c4) ∧ w'.cell? ⟨bp, op, none⟩ = some (.string (bs s))) := ⟨fun w' h => ⟨pw_cell_below h y0, pw_cell_below h y1, pw_cell_below h y2, pw_cell_below h y3, pw_cell_below h y4, pw_cell_below h hcs'⟩⟩
          have HVF := Aside0.mk hv
          clear hv hr hb hfit hok
          go_upto_region 9 with (fail)
          try rw [hn0]
          go_cut [6, 7] (fun s6 s7 wx => UpMid (FindP x [s]) okk wr s6 s7 wx)
          case first =>
            go_region_held3 (fun w' => w'.cell? ⟨b, 0, none⟩ = some (.int .u8 x.k) ∧ w'.cell? ⟨b, 1, none⟩ = some (.string (bs x.t)) ∧ w'.cell? ⟨b, 2, none⟩ = some (.int .i64 x.n) ∧ w'.cell? ⟨b, 3, none⟩ = some (.slice A3 x.i.len c3) ∧ w'.cell? ⟨b, 4, none⟩ = some (.slice A4 x.m.length c4) ∧ w'.cell? ⟨bp, op, none⟩ = some (.string (bs s)))
              (first
                | with_reducible exact KP.out _ (put5_below hbd (Nat.le_refl _))
                | with_reducible exact KP.out _ (put5_below hbd (Nat.le_succ _))
                | with_reducible exact KP.out _ (by repeat first | exact hbd | exact Below.refl _ _ | refine below_drew ?_ | refine below_alloc ?_ _))
              (first
                | (go_at_call 89; with_reducible refine (hfd (wr.alloc (litB s)).drew wr.heap.size BVA.out BA.out).mono ?_; rintro e w2 hret; obtain ⟨hb2, x2, k2, E3, f3', E4, f4', rfl, hrs⟩ := hret.uni; have hbd := below_step BVA.out hb2)
                | (go_at_call 89; with_reducible refine (hfd ((wr.alloc (litB s)).alloc zBox).drew wr.heap.size BVB.out BB.out).mono ?_; rintro e w2 hret; obtain ⟨hb2, x2, k2, E3, f3', E4, f4', rfl, hrs⟩ := hret.uni; have hbd := below_step BVB.out hb2; obtain ⟨q0, q1, q2, q3, q4, r0, r1, r2, r3, r4⟩ := cells_5 (blk_below BZ1.out hb2))
                | (go_at_call 89; with_reducible refine (hfd ((wr.alloc zBox).alloc (litB s)).drew (wr.heap.size + 1) BVC.out BC.out).mono ?_; rintro e w2 hret; obtain ⟨hb2, x2, k2, E3, f3', E4, f4', rfl, hrs⟩ := hret.uni; have hbd := below_step BVC.out hb2; obtain ⟨q0, q1, q2, q3, q4, r0, r1, r2, r3, r4⟩ := cells_5 (blk_below BZ2.out hb2)))
            all_goals
              (go_wp2_with fail)
              go_meet
              first
                | with_reducible exact up_new BVA.out hb2 hrs
                | with_reducible exact up_old BVB.out hb2 hrs BZ1.out (Nat.le_succ _) (hok2.out _ (by have := HBW.out.size; omega))
                | with_reducible exact up_old BVC.out hb2 hrs BZ2.out (Nat.le_refl _) (hok2.out _ (by have := HBW.out.size; omega))
                | skip
          case rest =>
            clear z0 z1 z2 z3 z4 f0 f1 f2 f3 f4 y0 y1 y2 y3 y4 hfd BA BB BC BZ1 BZ2 BVA BVB BVC
            obtain ⟨bx, x6, k6, E3, f3', E4, f4', rfl, rfl, hbx, hres, hBx⟩ := hcut
            rename World => wx
            have K1 := blk_below HK1.out hBx
            obtain ⟨z0, z1, z2, z3, z4, f0, f1, f2, f3, f4⟩ := cells_5 K1
            have HK1' := Aside0.mk K1
            have HBx := Aside0.mk hBx
            have hltx : b1 < wx.heap.size := blk_lt K1
            obtain ⟨x0, x1, x2, x3, x4, q0, q1, q2, q3, q4⟩ := cells_5 hbx
            clear K1 HK1 KP hbx q0 q1 q2 q3 q4
            cases hF : FindP x [s] with
            | ok y =>
              rw [hF] at hres HUP2
              obtain ⟨hv6, rfl, rfl⟩ := hres
              have HUP3 : Aside0 (FindP x6 p = o) := ⟨HUP2.out⟩
              have hft := fit_of (FindP_ok (HF.out x List.mem_cons_self).1 hF)
              have hfd := fun V (hbv : Below wx.heap.size wx V) => vfind_any x6 E3 f3' E4 f4' X (cp - 1) p _ V hft.1 (hv6.below hbv) hft.2 (RdS.below HT.out (below_step HBW.out (below_step HBx.out hbv))) hpp
              clear hv6 HUP2 hft hF
              go_upto_region 11 with (fail)
              go_region_with (go_at_call 89; refine (hfd _ ?_).mono ?_; exact (below_drew (Below.refl _ _)); rintro e w2 hret; obtain ⟨hb2, x7, k7, E5, f5, E6, f6, rfl, hrs⟩ := hret.uni; have K2 := blk_below HK1'.out (below_step (below_drew (Below.refl _ _)) hb2); obtain ⟨z0, z1, z2, z3, z4, f0, f1, f2, f3, f4⟩ := cells_5 K2; have hlt2 : b1 < w2.heap.size := blk_lt K2)
              all_goals
                go_wp2
                refine bodyPost_ret (results_ct rfl _ _ b1 43 #[.int .u8 x7.k, .string (bs x7.t), .int .i64 x7.n, .slice E5 x7.i.len f5, .slice E6 x7.m.length f6] (0, 0) _ rfl (put5_blk K2) Tryz.underlying43 rfl (by kernel_rfl)) rfl ?_
                refine ResV.ret (ok := fun q => (okk q ∨ wr.heap.size ≤ q) ∨ wx.drew.heap.size ≤ q) (ResV.step (HUP3.out ▸ hrs) (fun q hq _ => put5_far (fun e => ?_))) (put5_below (below_step HB1.out (below_step HBW.out (below_step HBx.out (below_step (below_drew (Below.refl _ _)) hb2)))) hle1) (fun q hq => ?_)
                · rw [World.size_drew] at hq
                  subst e
                  rcases hq with (hq | hq) | hq
                  · exact hok1.out hq
                  · omega
                  · omega
                · rw [World.size_drew] at hq
                  have h1 := HB1.out.size; have h2 := HBW.out.size; have h3 := HBx.out.size
                  rcases hq with (hq | hq) | hq
                  · rw [HOK.out] at hq; exact .inl hq.1
                  · exact .inr (by omega)
                  · exact .inr (by omega)
            | error j =>
              rw [hF] at hres HUP2
              obtain ⟨-, rfl, -⟩ := hres
              have HUP3 : Aside0 (upP s p r = o) := ⟨HUP2.out⟩
              have hk6 : (k6 == 0) = false := by rw [beq_eq_false_iff_ne]; rcases FindP_err hF with h | h <;> omega
              have w5 : wx.cell? ⟨b, 5, none⟩ = some (.pointer nx) := pw_cell_below HBx.out ((blk_cell HBB.out 5).trans rfl)
              clear HUP2 hF
              go_wp2
              go_roundg r.length
              case measure => simp only [List.length_cons] at hgk; omega
              case rel => exact ⟨nx, r, rfl, Nat.le_refl _, ⟨HNR.out.below HBx.out⟩, HUP3, ⟨fun z hz => HF.out z (List.mem_cons_of_mem _ hz)⟩, HK1', ⟨below_step HBW.out HBx.out⟩⟩
end Go.Proofs.YtniibpndgcndbaaGreatDoor.Tpl
namespace Go.Proofs.YtniibpndgcndbaaGreatDoor.Esc
open Go.RowKit Go.Proofs.YtniibpndgcndbaaGreatDoor.Bld Go.Proofs.YtniibpndgcndbaaGreatDoorW.PrintWords
def hexL : List UInt8 := [48, 49, 50, 51, 52, 53, 54, 55, 56, 57, 97, 98, 99, 100, 101, 102]
def pushN (n : Nat) : List UInt8 :=
  if n = 10 then [92, 110] else if n = 9 then [92, 116] else if n < 32 ∨ n = 127 then [92, 117, 48, 48, hexL.getD (n / 16) 0, hexL.getD (n % 16) 0] else if n = 34 ∨ n = 92 then [92, UInt8.ofNat n] else [UInt8.ofNat n]
theorem hexAt (i : Nat) (h : i < (⟨#[48, 49, 50, 51, 52, 53, 54, 55, 56, 57, 97, 98, 99, 100, 101, 102]⟩ : ByteArray).size) : (⟨#[48, 49, 50, 51, 52, 53, 54, 55, 56, 57, 97, 98, 99, 100, 101, 102]⟩ : ByteArray)[i] = hexL.getD i 0 := by
  have : ∀ j : Fin 16, (⟨#[48, 49, 50, 51, 52, 53, 54, 55, 56, 57, 97, 98, 99, 100, 101, 102]⟩ : ByteArray)[j.val]'j.isLt = hexL.getD j.val 0 := by decide
  exact this ⟨i, h⟩
theorem pushN_le (n : Nat) : 1 ≤ (pushN n).length ∧ (pushN n).length ≤ 6 := by
  unfold pushN; repeat' split
  all_goals simp
set_option maxHeartbeats 2000000 in
set_option maxRecDepth 100000 in
theorem push_any (B b : Nat) (bs : List Value) (n : Nat) (hn : n < 256) (w : World) (h : IsB B b bs w) (hlen : bs.length + 6 ≤ 140737488355328) (hBw : B ≤ w.heap.size) :
    Calls Tryz.prog 183 #[.pointer (some ⟨b, 0, none⟩), .int .u8 n] w fun e w' => e = .returned (.tuple #[]) ∧ IsB B b (bs ++ Lib.byteCells (pushN n)) w' ∧ Below B w w' := by
  by_cases c1 : n = 10
  · subst c1
    go_enter Tryz.func183, Tryz.ntmps183
    go_wp2_with fail
    refine (writeString B b bs _ _ h (show bs.length + 2 ≤ _ by omega) hBw).mono ?_
    rintro e w1 ⟨rfl, h1, hb1⟩
    go_wp2
    go_end0
    exact ⟨rfl, h1, hb1⟩
  by_cases c2 : n = 9
  · subst c2
    go_enter Tryz.func183, Tryz.ntmps183
    go_wp2_with fail
    refine (writeString B b bs _ _ h (show bs.length + 2 ≤ _ by omega) hBw).mono ?_
    rintro e w1 ⟨rfl, h1, hb1⟩
    go_wp2
    go_end0
    exact ⟨rfl, h1, hb1⟩
  have t1 : ((n : Int) == 10) = false := by rw [beq_eq_false_iff_ne]; omega
  have t2 : ((n : Int) == 9) = false := by rw [beq_eq_false_iff_ne]; omega
  by_cases c3 : n < 32 ∨ n = 127
  · have e : pushN n = [92, 117, 48, 48, hexL.getD (n / 16) 0, hexL.getD (n % 16) 0] := by unfold pushN; rw [if_neg c1, if_neg c2, if_pos c3]
    rw [e]
    clear e
    have hq : n / 16 < 16 := by omega
    have hr : n % 16 < 16 := by omega
    by_cases c4 : n < 32
    · have t3 : decide ((n : Int) < 32) = true := by simp; omega
      clear c1 c2 c3
      go_enter Tryz.func183, Tryz.ntmps183
      go_wp2_with fail
      refine (writeString B b bs _ _ h (show bs.length + 4 ≤ _ by omega) hBw).mono ?_
      rintro e w1 ⟨rfl, h1, hb1⟩
      go_wp2_with fail
      refine (writeByte B b _ _ _ h1 (by simp [Lib.strCells]; omega) (by have := hb1.size; omega)).mono ?_
      rintro e w2 ⟨rfl, h2, hb2⟩
      go_wp2_with fail
      refine (writeByte B b _ _ _ h2 (by simp [Lib.strCells]; omega) (by have := hb1.size; have := hb2.size; omega)).mono ?_
      rintro e w3 ⟨rfl, h3, hb3⟩
      go_wp2
      go_end0
      exact ⟨rfl, by rw [hexAt, hexAt] at h3; simpa [Lib.strCells, Lib.byteCells] using h3, (hb1.trans hb2).trans hb3⟩
    · obtain rfl : n = 127 := by omega
      clear c1 c2 c3
      go_enter Tryz.func183, Tryz.ntmps183
      go_wp2_with fail
      refine (writeString B b bs _ _ h (show bs.length + 4 ≤ _ by omega) hBw).mono ?_
      rintro e w1 ⟨rfl, h1, hb1⟩
      go_wp2_with fail
      refine (writeByte B b _ _ _ h1 (by simp [Lib.strCells]; omega) (by have := hb1.size; omega)).mono ?_
      rintro e w2 ⟨rfl, h2, hb2⟩
      go_wp2_with fail
      refine (writeByte B b _ _ _ h2 (by simp [Lib.strCells]; omega) (by have := hb1.size; have := hb2.size; omega)).mono ?_
      rintro e w3 ⟨rfl, h3, hb3⟩
      go_wp2
      go_end0
      exact ⟨rfl, by rw [hexAt, hexAt] at h3; simpa [Lib.strCells, Lib.byteCells, hexL] using h3, (hb1.trans hb2).trans hb3⟩
  have t3 : decide ((n : Int) < 32) = false := by simp; omega
  have t4 : ((n : Int) == 127) = false := by rw [beq_eq_false_iff_ne]; omega
  by_cases c4 : n = 34
  · subst c4
    go_enter Tryz.func183, Tryz.ntmps183
    go_wp2_with fail
    refine (writeByte B b bs _ _ h (by omega) hBw).mono ?_
    rintro e w1 ⟨rfl, h1, hb1⟩
    go_wp2_with fail
    refine (writeByte B b _ _ _ h1 (by simp; omega) (by have := hb1.size; omega)).mono ?_
    rintro e w2 ⟨rfl, h2, hb2⟩
    go_wp2
    go_end0
    exact ⟨rfl, by simpa [pushN, Lib.byteCells] using h2, hb1.trans hb2⟩
  by_cases c5 : n = 92
  · subst c5
    go_enter Tryz.func183, Tryz.ntmps183
    go_wp2_with fail
    refine (writeByte B b bs _ _ h (by omega) hBw).mono ?_
    rintro e w1 ⟨rfl, h1, hb1⟩
    go_wp2_with fail
    refine (writeByte B b _ _ _ h1 (by simp; omega) (by have := hb1.size; omega)).mono ?_
    rintro e w2 ⟨rfl, h2, hb2⟩
    go_wp2
    go_end0
    exact ⟨rfl, by simpa [pushN, Lib.byteCells] using h2, hb1.trans hb2⟩
  have t5 : ((n : Int) == 34) = false := by rw [beq_eq_false_iff_ne]; omega
  have t6 : ((n : Int) == 92) = false := by rw [beq_eq_false_iff_ne]; omega
  have e : Lib.byteCells (pushN n) = [.int .u8 n] := by
    unfold pushN; rw [if_neg c1, if_neg c2, if_neg c3, if_neg (by omega)]
    simp [Lib.byteCells]; omega
  rw [e]
  clear e c1 c2 c3 c4 c5
  go_enter Tryz.func183, Tryz.ntmps183
  go_wp2_with fail
  refine (writeByte B b bs _ _ h (by omega) hBw).mono ?_
  rintro e w1 ⟨rfl, h1, hb1⟩
  go_wp2
  go_end0
  exact ⟨rfl, h1, hb1⟩
def entN (n : Nat) : List UInt8 :=
  if n = 38 then [38, 97, 109, 112, 59] else if n = 60 then [38, 108, 116, 59] else if n = 62 then [38, 103, 116, 59] else if n = 34 then [38, 113, 117, 111, 116, 59] else if n = 39 then [38, 35, 51, 57, 59] else []
theorem entity_any (n : Nat) (w : World) : Calls Tryz.prog 197 #[.int .u8 n] w fun e w' => e = .returned (.string ⟨(entN n).toArray⟩) ∧ w = w' := by
  by_cases c1 : n = 38
  · subst c1
    go_enter Tryz.func197, Tryz.ntmps197
    go_wp2
    go_ret
    exact ⟨rfl, rfl⟩
  by_cases c2 : n = 60
  · subst c2
    go_enter Tryz.func197, Tryz.ntmps197
    go_wp2
    go_ret
    exact ⟨rfl, rfl⟩
  by_cases c3 : n = 62
  · subst c3
    go_enter Tryz.func197, Tryz.ntmps197
    go_wp2
    go_ret
    exact ⟨rfl, rfl⟩
  by_cases c4 : n = 34
  · subst c4
    go_enter Tryz.func197, Tryz.ntmps197
    go_wp2
    go_ret
    exact ⟨rfl, rfl⟩
  by_cases c5 : n = 39
  · subst c5
    go_enter Tryz.func197, Tryz.ntmps197
    go_wp2
    go_ret
    exact ⟨rfl, rfl⟩
  have e : entN n = [] := by unfold entN; rw [if_neg c1, if_neg c2, if_neg c3, if_neg c4, if_neg c5]
  rw [e]
  have t1 : ((n : Int) == 38) = false := by rw [beq_eq_false_iff_ne]; omega
  have t2 : ((n : Int) == 60) = false := by rw [beq_eq_false_iff_ne]; omega
  have t3 : ((n : Int) == 62) = false := by rw [beq_eq_false_iff_ne]; omega
  have t4 : ((n : Int) == 34) = false := by rw [beq_eq_false_iff_ne]; omega
  have t5 : ((n : Int) == 39) = false := by rw [beq_eq_false_iff_ne]; omega
  clear e c1 c2 c3 c4 c5
  go_enter Tryz.func197, Tryz.ntmps197
  go_wp2
  go_ret
  exact ⟨rfl, rfl⟩
def emailN (n : Nat) : List UInt8 := if entN n = [] then [UInt8.ofNat n] else entN n
theorem entN_le (n : Nat) : (entN n).length ≤ 6 := by
  unfold entN; repeat' split
  all_goals simp
theorem emailN_le (n : Nat) : 1 ≤ (emailN n).length ∧ (emailN n).length ≤ 6 := by
  have := entN_le n
  unfold emailN; split
  · simp
  · rename_i h
    exact ⟨by cases hh : entN n with
      | nil => exact absurd hh h
      | cons a l => simp, this⟩
theorem byteCells_one (n : Nat) (hn : n < 256) : Lib.byteCells [UInt8.ofNat n] = [.int .u8 n] := by simp [Lib.byteCells]; omega
theorem email_any (B b : Nat) (bs : List Value) (n : Nat) (hn : n < 256) (w : World) (h : IsB B b bs w) (hlen : bs.length + 6 ≤ 140737488355328) (hBw : B ≤ w.heap.size) :
    Calls Tryz.prog 184 #[.pointer (some ⟨b, 0, none⟩), .int .u8 n] w fun e w' => e = .returned (.tuple #[]) ∧ IsB B b (bs ++ Lib.byteCells (emailN n)) w' ∧ Below B w w' := by
  have hl := entN_le n
  have he := entity_any n w
  have eE : emailN n = if entN n = [] then [UInt8.ofNat n] else entN n := rfl
  rw [eE]
  clear eE
  generalize entN n = l at *
  cases l with
  | nil =>
    rw [if_pos rfl, byteCells_one n hn]
    go_enter Tryz.func184, Tryz.ntmps184
    go_wp2_with fail
    refine he.mono ?_
    rintro e w1 ⟨rfl, rfl⟩
    go_wp2_with fail
    refine (writeByte B b bs _ _ h (by omega) hBw).mono ?_
    rintro e w1 ⟨rfl, h1, hb1⟩
    go_wp2
    go_end0
    exact ⟨rfl, h1, hb1⟩
  | cons a l =>
    rw [if_neg (by simp)]
    go_enter Tryz.func184, Tryz.ntmps184
    go_wp2_with fail
    refine he.mono ?_
    rintro e w1 ⟨rfl, rfl⟩
    go_wp2_with fail
    refine (writeString B b bs _ _ h (show bs.length + (a :: l).length ≤ _ by omega) hBw).mono ?_
    rintro e w1 ⟨rfl, h1, hb1⟩
    go_wp2
    (try simp only [Exit.inBlock, Exit.then])
    refine bodyPost_ret (results_none rfl _ _ _) rfl ⟨rfl, h1, hb1⟩
def smsStep (st : List UInt8 × Bool) (c : UInt8) : List UInt8 × Bool :=
  if c = 10 ∨ c = 9 then (st.1 ++ [32], false) else if 32 ≤ c ∧ c ≤ 126 then (st.1 ++ [c], false) else if st.2 = true then st else (st.1 ++ [63], true)
def smsF (l : List UInt8) : List UInt8 × Bool := l.foldl smsStep ([], false)
theorem smsStep_le (st : List UInt8 × Bool) (c : UInt8) : (smsStep st c).1.length ≤ st.1.length + 1 := by
  unfold smsStep; repeat' split
  all_goals simp
theorem smsF_snoc (l : List UInt8) (c : UInt8) : smsF (l ++ [c]) = smsStep (smsF l) c := by unfold smsF; rw [List.foldl_append]; rfl
theorem smsF_le' (l : List UInt8) : ∀ st, (l.foldl smsStep st).1.length ≤ st.1.length + l.length := by
  induction l with
  | nil => intro st; simp
  | cons c l ih => intro st; have := smsStep_le st c; have := ih (smsStep st c); simp only [List.foldl_cons, List.length_cons]; omega
theorem smsF_le (l : List UInt8) : (smsF l).1.length ≤ l.length := by have := smsF_le' l ([], false); simpa [smsF] using this
theorem u8_eq (c : UInt8) (n : Nat) (hn : n < 256) : c = UInt8.ofNat n ↔ c.toNat = n := by
  constructor
  · rintro rfl; simp; omega
  · intro h; apply UInt8.toNat_inj.1; simp; omega
theorem sms10 (st : List UInt8 × Bool) (c : UInt8) (h : c.toNat = 10 ∨ c.toNat = 9) : smsStep st c = (st.1 ++ [32], false) := by
  unfold smsStep; rw [if_pos]; rcases h with h | h
  · exact .inl ((u8_eq c 10 (by decide)).2 h)
  · exact .inr ((u8_eq c 9 (by decide)).2 h)
theorem smsPlain (st : List UInt8 × Bool) (c : UInt8) (h1 : 32 ≤ c.toNat) (h2 : c.toNat ≤ 126) : smsStep st c = (st.1 ++ [c], false) := by
  unfold smsStep; rw [if_neg, if_pos]
  · exact ⟨UInt8.le_iff_toNat_le.2 h1, UInt8.le_iff_toNat_le.2 h2⟩
  · rintro (h | h) <;> subst h <;> simp at h1
theorem smsOther (st : List UInt8 × Bool) (c : UInt8) (h0 : c.toNat ≠ 10 ∧ c.toNat ≠ 9) (h : ¬ (32 ≤ c.toNat ∧ c.toNat ≤ 126)) : smsStep st c = if st.2 = true then st else (st.1 ++ [63], true) := by
  unfold smsStep; rw [if_neg, if_neg]
  · rintro ⟨a, b⟩; exact h ⟨UInt8.le_iff_toNat_le.1 a, UInt8.le_iff_toNat_le.1 b⟩
  · rintro (h | h)
    · exact h0.1 ((u8_eq c 10 (by decide)).1 h)
    · exact h0.2 ((u8_eq c 9 (by decide)).1 h)
theorem cells_snoc (l : List UInt8) (c : UInt8) : Lib.byteCells (l ++ [c]) = Lib.byteCells l ++ [.int .u8 c.toNat] := by simp [Lib.byteCells]
theorem take_snoc (s : ByteArray) (k : Nat) (h : k < s.size) : s.data.toList.take (k + 1) = s.data.toList.take k ++ [s[k]] := by
  rw [List.take_succ_eq_append_getElem (by simpa using h)]; rfl
set_option maxHeartbeats 4000000 in
set_option maxRecDepth 100000 in
theorem sms_any (B b : Nat) (s : ByteArray) (w : World) (h : IsB B b [] w) (hs : s.size ≤ 140737488351232) (hBw : B ≤ w.heap.size) :
    Calls Tryz.prog 182 #[.pointer (some ⟨b, 0, none⟩), .string s] w fun e w' => e = .returned (.tuple #[]) ∧ IsB B b (Lib.byteCells (smsF s.data.toList).1) w' ∧ Below B w w' := by
  go_enter Tryz.func182, Tryz.ntmps182
  go_wp2
  go_loopw [4, 9] (fun r i wr => ∃ k : Nat, k ≤ s.size ∧ i = .int .i64 k ∧ r = .bool (smsF (s.data.toList.take k)).2 ∧ Aside0 (IsB B b (Lib.byteCells (smsF (s.data.toList.take k)).1) wr) ∧ Aside0 (Below B w wr)) (fun _ i _ => s.size - (intOf i).toNat)
  case atStart => exact ⟨0, Nat.zero_le _, rfl, rfl, ⟨h⟩, ⟨Below.refl _ _⟩⟩
  case round =>
    obtain ⟨k, hk, rfl, rfl, ⟨hi⟩, ⟨hb⟩⟩ := hrel
    have hle := smsF_le (s.data.toList.take k)
    have hlk : (s.data.toList.take k).length ≤ k := List.length_take_le _ _
    by_cases hlt : k < s.size
    · have hsn : smsF (s.data.toList.take (k + 1)) = smsStep (smsF (s.data.toList.take k)) s[k] := by rw [take_snoc s k hlt, smsF_snoc]
      have hz := hb.size
      have hc := s[k].toNat_lt
      have HL : (Lib.byteCells (smsF (s.data.toList.take k)).1).length = (smsF (s.data.toList.take k)).1.length := by simp [Lib.byteCells]
      generalize smsF (s.data.toList.take k) = st at *
      obtain ⟨acc, run⟩ := st
      simp only at hi hle HL
      by_cases c1 : s[k].toNat = 10 ∨ s[k].toNat = 9
      · rw [sms10 _ _ c1] at hsn
        have HS := Lib.hid hsn
        clear hsn
        by_cases c2 : s[k].toNat = 10
        · have t1 : ((s[k].toNat : Int) == 10) = true := by rw [beq_iff_eq]; omega
          clear c1 c2
          go_wp2_with fail
          refine (writeByte B b _ _ _ hi (by omega) (by omega)).mono ?_
          rintro e w1 ⟨rfl, h1, hb1⟩
          go_wp2
          go_roundw
          case rel => exact ⟨k + 1, by omega, by go_num, by rw [HS.out], ⟨by rw [HS.out, cells_snoc]; exact h1⟩, ⟨hb.trans hb1⟩⟩
          case measure => simp [intOf]; omega
        · have t1 : ((s[k].toNat : Int) == 10) = false := by rw [beq_eq_false_iff_ne]; omega
          have t2 : ((s[k].toNat : Int) == 9) = true := by rw [beq_iff_eq]; omega
          clear c1 c2
          go_wp2_with fail
          refine (writeByte B b _ _ _ hi (by omega) (by omega)).mono ?_
          rintro e w1 ⟨rfl, h1, hb1⟩
          go_wp2
          go_roundw
          case rel => exact ⟨k + 1, by omega, by go_num, by rw [HS.out], ⟨by rw [HS.out, cells_snoc]; exact h1⟩, ⟨hb.trans hb1⟩⟩
          case measure => simp [intOf]; omega
      · have t1 : ((s[k].toNat : Int) == 10) = false := by rw [beq_eq_false_iff_ne]; omega
        have t2 : ((s[k].toNat : Int) == 9) = false := by rw [beq_eq_false_iff_ne]; omega
        by_cases c3 : 32 ≤ s[k].toNat ∧ s[k].toNat ≤ 126
        · rw [smsPlain _ _ c3.1 c3.2] at hsn
          have HS := Lib.hid hsn
          obtain ⟨t3, t4⟩ := c3
          clear hsn c1
          go_wp2_with fail
          refine (writeByte B b _ _ _ hi (by omega) (by omega)).mono ?_
          rintro e w1 ⟨rfl, h1, hb1⟩
          go_wp2
          go_roundw
          case rel => exact ⟨k + 1, by omega, by go_num, by rw [HS.out], ⟨by rw [HS.out, cells_snoc]; exact h1⟩, ⟨hb.trans hb1⟩⟩
          case measure => simp [intOf]; omega
        · rw [smsOther _ _ (by omega) c3] at hsn
          have HS := Lib.hid hsn
          clear hsn
          have t3 : s[k].toNat < 32 ∨ 126 < s[k].toNat := by omega
          clear c1 c3
          cases run with
          | true =>
            simp only [if_true] at HS
            rcases t3 with t3 | t3
            all_goals
              go_wp2
              go_roundw
              case rel => exact ⟨k + 1, by omega, by go_num, by rw [HS.out], ⟨by rw [HS.out]; exact hi⟩, ⟨hb⟩⟩
              case measure => simp [intOf]; omega
          | false =>
            simp only [Bool.false_eq_true, if_false] at HS
            rcases t3 with t3 | t3
            all_goals
              go_wp2_with fail
              refine (writeByte B b _ _ _ hi (by omega) (by omega)).mono ?_
              rintro e w1 ⟨rfl, h1, hb1⟩
              go_wp2
              go_roundw
              case rel => exact ⟨k + 1, by omega, by go_num, by rw [HS.out], ⟨by rw [HS.out, cells_snoc]; exact h1⟩, ⟨hb.trans hb1⟩⟩
              case measure => simp [intOf]; omega
    · have e : k = s.size := by omega
      have e2 : s.data.toList.take k = s.data.toList := List.take_of_length_le (by simp; omega)
      rw [e2] at hi
      clear e e2 hle hlk
      go_wp2
      go_end0
      exact ⟨rfl, hi, hb⟩
theorem is_any (c : Int) (h0 : 0 ≤ c) (w : World) : Calls Tryz.prog 181 #[.int .u8 c] w fun e w' => e = .returned (.bool (decide (1 ≤ c ∧ c ≤ 3))) ∧ w = w' := by
  by_cases c1 : 0 < c
  · by_cases c2 : c < 4
    · rw [decide_eq_true (by omega)]
      go_enter Tryz.func181, Tryz.ntmps181
      go_wp2
      go_ret
      exact ⟨rfl, rfl⟩
    · rw [decide_eq_false (by omega)]
      go_enter Tryz.func181, Tryz.ntmps181
      go_wp2
      go_ret
      exact ⟨rfl, rfl⟩
  · rw [decide_eq_false (by omega)]
    go_enter Tryz.func181, Tryz.ntmps181
    go_wp2
    go_ret
    exact ⟨rfl, rfl⟩
def noteL (l : List UInt8) : List UInt8 := l.flatMap fun c => pushN c.toNat
def mailL (l : List UInt8) : List UInt8 := l.flatMap fun c => emailN c.toNat
theorem noteL_le (l : List UInt8) : l.length ≤ (noteL l).length ∧ (noteL l).length ≤ 6 * l.length := by
  induction l with
  | nil => simp [noteL]
  | cons c l ih => have := pushN_le c.toNat; simp only [noteL, List.flatMap_cons, List.length_append, List.length_cons] at *; omega
theorem mailL_le (l : List UInt8) : l.length ≤ (mailL l).length ∧ (mailL l).length ≤ 6 * l.length := by
  induction l with
  | nil => simp [mailL]
  | cons c l ih => have := emailN_le c.toNat; simp only [mailL, List.flatMap_cons, List.length_append, List.length_cons] at *; omega
theorem noteL_snoc (l : List UInt8) (c : UInt8) : noteL (l ++ [c]) = noteL l ++ pushN c.toNat := by simp [noteL]
theorem mailL_snoc (l : List UInt8) (c : UInt8) : mailL (l ++ [c]) = mailL l ++ emailN c.toNat := by simp [mailL]
def toL (c : Int) (l : List UInt8) : List UInt8 := if c = 1 then noteL l else if c = 2 then mailL l else (smsF l).1
def esc_To.f (a0 : Int) (a1 : ByteArray) : Option (ByteArray × Int) :=
  if 0 ≤ a0 then (if 1 ≤ a0 ∧ a0 ≤ 3 then (if a1.size ≤ 23456248059221 then some (⟨(toL a0 a1.data.toList).toArray⟩, 0) else none) else some (⟨#[]⟩, 1)) else none
theorem newB (w : World) : IsB w.heap.size w.heap.size [] (w.alloc (.cells #[.pointer none, .slice none 0 0] 78)) := .of (Lib.fresh_isBuilder _ _ w)
theorem cells_len (l : List UInt8) : (Lib.byteCells l).length = l.length := by simp [Lib.byteCells]
set_option maxHeartbeats 4000000 in
set_option maxRecDepth 100000 in
theorem to_sms (s : ByteArray) (hs : s.size ≤ 140737488351232) (w : World) :
    Calls Tryz.prog 158 #[.int .u8 3, .string s] w fun e w' => e = .returned (.tuple #[.string ⟨(smsF s.data.toList).1.toArray⟩, .int .i64 0]) ∧ Below w.heap.size w w' := by
  have h0 := newB w
  go_enter Tryz.func158, Tryz.ntmps158
  go_wp2_with fail
  refine (is_any 3 (by decide) _).mono ?_
  rintro e w1 ⟨rfl, rfl⟩
  go_wp2_with fail
  refine (sms_any _ _ s _ h0 hs (by simp)).mono ?_
  rintro e w1 ⟨rfl, h1, hb1⟩
  go_wp2_with fail
  refine (string _ _ _ _ h1 (by have := hb1.size; simp at this; omega)).mono ?_
  rintro e w2 ⟨rfl, h2, hb2⟩
  go_wp2
  go_ret2
  exact ⟨rfl, (((Below.refl _ w).alloc (Nat.le_refl _) _).trans hb1).trans hb2⟩
set_option maxHeartbeats 4000000 in
set_option maxRecDepth 100000 in
theorem to_note (s : ByteArray) (hs : s.size ≤ 23456248059221) (w : World) :
    Calls Tryz.prog 158 #[.int .u8 1, .string s] w fun e w' => e = .returned (.tuple #[.string ⟨(noteL s.data.toList).toArray⟩, .int .i64 0]) ∧ Below w.heap.size w w' := by
  have h0 := newB w
  go_enter Tryz.func158, Tryz.ntmps158
  go_wp2_with fail
  refine (is_any 1 (by decide) _).mono ?_
  rintro e w1 ⟨rfl, rfl⟩
  go_wp2
  go_loopw [21] (fun i wr => ∃ k : Nat, k ≤ s.size ∧ i = .int .i64 k ∧ Aside0 (IsB w.heap.size w.heap.size (Lib.byteCells (noteL (s.data.toList.take k))) wr) ∧ Aside0 (Below w.heap.size w wr)) (fun i _ => s.size - (intOf i).toNat)
  case atStart => exact ⟨0, Nat.zero_le _, rfl, ⟨h0⟩, ⟨(Below.refl _ w).alloc (Nat.le_refl _) _⟩⟩
  case round =>
    obtain ⟨k, hk, rfl, ⟨hi⟩, ⟨hb⟩⟩ := hrel
    have hz := hb.size
    by_cases hlt : k < s.size
    · have HS := Lib.hid (show noteL (s.data.toList.take (k + 1)) = _ by rw [take_snoc s k hlt, noteL_snoc])
      have hle := (noteL_le (s.data.toList.take k)).2
      have hlk : (s.data.toList.take k).length ≤ k := List.length_take_le _ _
      go_wp2_with fail
      refine (push_any _ _ _ _ s[k].toNat_lt _ hi (by rw [cells_len]; omega) (by omega)).mono ?_
      rintro e w1 ⟨rfl, h1, hb1⟩
      go_wp2
      go_roundw
      case rel => exact ⟨k + 1, by omega, by go_num, ⟨by rw [HS.out]; simpa [Lib.byteCells] using h1⟩, ⟨hb.trans hb1⟩⟩
      case measure => simp [intOf]; omega
    · have e2 : s.data.toList.take k = s.data.toList := List.take_of_length_le (by simp; omega)
      rw [e2] at hi
      clear e2
      go_wp2_with fail
      refine (string _ _ _ _ hi (by omega)).mono ?_
      rintro e w2 ⟨rfl, h2, hb2⟩
      go_wp2
      go_ret2
      exact ⟨rfl, hb.trans hb2⟩
set_option maxHeartbeats 4000000 in
set_option maxRecDepth 100000 in
theorem to_mail (s : ByteArray) (hs : s.size ≤ 23456248059221) (w : World) :
    Calls Tryz.prog 158 #[.int .u8 2, .string s] w fun e w' => e = .returned (.tuple #[.string ⟨(mailL s.data.toList).toArray⟩, .int .i64 0]) ∧ Below w.heap.size w w' := by
  have h0 := newB w
  go_enter Tryz.func158, Tryz.ntmps158
  go_wp2_with fail
  refine (is_any 2 (by decide) _).mono ?_
  rintro e w1 ⟨rfl, rfl⟩
  go_wp2
  go_loopw [21] (fun i wr => ∃ k : Nat, k ≤ s.size ∧ i = .int .i64 k ∧ Aside0 (IsB w.heap.size w.heap.size (Lib.byteCells (mailL (s.data.toList.take k))) wr) ∧ Aside0 (Below w.heap.size w wr)) (fun i _ => s.size - (intOf i).toNat)
  case atStart => exact ⟨0, Nat.zero_le _, rfl, ⟨h0⟩, ⟨(Below.refl _ w).alloc (Nat.le_refl _) _⟩⟩
  case round =>
    obtain ⟨k, hk, rfl, ⟨hi⟩, ⟨hb⟩⟩ := hrel
    have hz := hb.size
    by_cases hlt : k < s.size
    · have HS := Lib.hid (show mailL (s.data.toList.take (k + 1)) = _ by rw [take_snoc s k hlt, mailL_snoc])
      have hle := (mailL_le (s.data.toList.take k)).2
      have hlk : (s.data.toList.take k).length ≤ k := List.length_take_le _ _
      go_wp2_with fail
      refine (email_any _ _ _ _ s[k].toNat_lt _ hi (by rw [cells_len]; omega) (by omega)).mono ?_
      rintro e w1 ⟨rfl, h1, hb1⟩
      go_wp2
      go_roundw
      case rel => exact ⟨k + 1, by omega, by go_num, ⟨by rw [HS.out]; simpa [Lib.byteCells] using h1⟩, ⟨hb.trans hb1⟩⟩
      case measure => simp [intOf]; omega
    · have e2 : s.data.toList.take k = s.data.toList := List.take_of_length_le (by simp; omega)
      rw [e2] at hi
      clear e2
      go_wp2_with fail
      refine (string _ _ _ _ hi (by omega)).mono ?_
      rintro e w2 ⟨rfl, h2, hb2⟩
      go_wp2
      go_ret2
      exact ⟨rfl, hb.trans hb2⟩
set_option maxHeartbeats 1000000 in
theorem to_none (c : Int) (s : ByteArray) (h0 : 0 ≤ c) (hc : ¬ (1 ≤ c ∧ c ≤ 3)) (w : World) :
    Calls Tryz.prog 158 #[.int .u8 c, .string s] w fun e w' => e = .returned (.tuple #[.string ⟨#[]⟩, .int .i64 1]) ∧ Below w.heap.size w w' := by
  go_enter Tryz.func158, Tryz.ntmps158
  go_wp2_with fail
  refine (is_any c h0 _).mono ?_
  rw [decide_eq_false hc]
  rintro e w1 ⟨rfl, rfl⟩
  go_wp2
  go_ret2
  exact ⟨rfl, Below.refl _ _⟩
theorem esc_To.calls (a0 : Int) (a1 : ByteArray) (r1 : ByteArray) (r2 : Int) (w : World) (h : esc_To.f a0 a1 = some (r1, r2)) :
    Calls Tryz.prog 158 #[.int .u8 a0, .string a1] w fun e w' => e = .returned (.tuple #[.string r1, .int .i64 r2]) ∧ Below w.heap.size w w' := by
  unfold esc_To.f at h
  by_cases h0 : 0 ≤ a0
  · rw [if_pos h0] at h
    by_cases hc : 1 ≤ a0 ∧ a0 ≤ 3
    · rw [if_pos hc] at h
      by_cases hs : a1.size ≤ 23456248059221
      · rw [if_pos hs] at h
        simp only [Option.some.injEq, Prod.mk.injEq] at h
        obtain ⟨rfl, rfl⟩ := h
        have : a0 = 1 ∨ a0 = 2 ∨ a0 = 3 := by omega
        rcases this with rfl | rfl | rfl
        · exact to_note a1 hs w
        · exact to_mail a1 hs w
        · exact to_sms a1 (by omega) w
      · rw [if_neg hs] at h; cases h
    · rw [if_neg hc] at h
      simp only [Option.some.injEq, Prod.mk.injEq] at h
      obtain ⟨rfl, rfl⟩ := h
      exact to_none a0 a1 h0 hc w
  · rw [if_neg h0] at h; cases h
end Go.Proofs.YtniibpndgcndbaaGreatDoor.Esc
namespace Go.Proofs.YtniibpndgcndbaaGreatDoor.Tpl
open Go.RowKit Go.Proofs Go.Proofs.YtniibpndgcndbaaGreatDoor.PB Go.Proofs.YtniibpndgcndbaaGreatDoor.Short Go.Proofs.YtniibpndgcndbaaGreatDoorW.PrintWords Go.Proofs.YtniibpndgcndbaaGreatDoorW.PrintLast Go.Proofs.YtniibpndgcndbaaGreatDoorW.PrintMore Vals
abbrev stopO (k : Int) : Obj := .cells #[.int .i64 k] 177 (0, 0)
def PenRet (B g c : Nat) (most : Int) (o : Except Int Pen) (w : World) (e : Ending) (w' : World) : Prop :=
  PStep g w w' ∧ match o with
  | .ok q => e = .returned .nilIface ∧ PenAt w' B g q.1 c most q.2
  | .error k => ∃ b, e = .returned (.iface 119 (.pointer (some ⟨b, 0, none⟩))) ∧ w'.heap[b]? = some (stopO k)
theorem PenRet.after {B g c : Nat} {most : Int} {o : Except Int Pen} {w w1 w' : World} {e : Ending} (h : PenRet B g c most o w1 e w') (hp : PStep g w w1) : PenRet B g c most o w e w' := ⟨hp.trans h.1, h.2⟩
set_option maxHeartbeats 1000000 in
set_option maxRecDepth 100000 in
theorem padd_any (g B : Nat) (l s : S) (c : Nat) (most left : Int) (w : World) (h : PenAt w B g l c most left) (hl : (l.length : Int) ≤ most) (hm : most ≤ 1048576) (hs : s.length ≤ 100000000) (hBw : B ≤ w.heap.size) :
    Calls Tryz.prog 159 #[.pointer (some ⟨g, 0, none⟩), .string (bs s)] w (PenRet B g c most (addP most (l, left) s) w) := by
  obtain ⟨o, ho⟩ : ∃ o, addP most (l, left) s = o := ⟨_, rfl⟩
  rw [ho]
  have HO := Aside0.mk ho
  have HP := Aside0.mk h
  have hl0 : (0 : Int) ≤ l.length := Int.natCast_nonneg _
  have hs0 : (0 : Int) ≤ s.length := Int.natCast_nonneg _
  have hs1 : (s.length : Int) ≤ 100000000 := by omega
  have hsz : ((bs s).size : Int) = s.length := by rw [bs_size]
  have m3 : w.cell? ⟨g, 3, none⟩ = some (.int .i64 most) := by obtain ⟨_, p, v, _, hk, _⟩ := h; exact (blk_cell hk 3).trans rfl
  have hlen : ∀ n, Calls Tryz.prog 185 #[.pointer (some ⟨g, 0, none⟩)] (w.drewN n) fun e w' => e = .returned (.int .i64 l.length) ∧ w' = w.drewN n := fun n => (plen_any g (w.drewN n) B l c most left (h.below (belS (Below.refl _ _)))).mono (fun e w' h => ⟨h.1, h.2.symm⟩)
  clear h ho
  go_enter Tryz.func159, Tryz.ntmps159
  go_upto_region 1 with (fail)
  go_quiet ((go_at_call 185; exact Calls.quiet_of_same (hlen _)))
  have hB : Below w.heap.size w (w.drewN nq) := belS (Below.refl _ _)
  generalize w.drewN nq = W at hB ⊢
  have HS := Aside0.mk (PStep.of_below HP.out.lt hB)
  have hPW := HP.out.below hB
  have hBW : B ≤ W.heap.size := Nat.le_trans hBw hB.size
  have hgW := hPW.lt
  clear hB hlen m3 hBw
  by_cases hgt : (s.length : Int) > most - l.length
  · have hD : decide (most - (l.length : Int) < (s.length : Int)) = true := decide_eq_true (by omega)
    rw [hD]
    have ho : Except.error 12 = o := HO.out ▸ (if_pos hgt).symm
    subst ho
    go_wp2
    go_ret
    exact ⟨HS.out.trans (PStep.of_below hgW (below_alloc (Below.refl _ _) _)), _, rfl, blk_new _ _⟩
  · have hD : decide (most - (l.length : Int) < (s.length : Int)) = false := decide_eq_false (by omega)
    rw [hD]
    have ho : Except.ok (l ++ s, left) = o := HO.out ▸ (if_neg hgt).symm
    subst ho
    have hw := pwrite_any g B l s c most left W hPW (by omega) hBW
    clear hD hgt hPW
    go_wp2_with fail
    refine hw.mono ?_
    rintro e w2 ⟨rfl, h2, h3⟩
    go_wp2
    go_ret
    exact ⟨HS.out.trans h3, rfl, h2⟩
theorem toL_le (c : Int) (l : S) : (Esc.toL c l).length ≤ 6 * l.length := by
  unfold Esc.toL
  split
  · exact (Esc.noteL_le l).2
  · split
    · exact (Esc.mailL_le l).2
    · have := Esc.smsF_le l; omega
theorem eto_any (c : Nat) (s : S) (hc : 1 ≤ c ∧ c ≤ 3) (hs : s.length ≤ 1048576) (w : World) :
    Calls Tryz.prog 158 #[.int .u8 c, .string (bs s)] w fun e w' => e = .returned (.tuple #[.string (bs (Esc.toL c s)), .int .i64 0]) ∧ Below w.heap.size w w' := by
  have he : Esc.esc_To.f (c : Int) (bs s) = some (bs (Esc.toL c s), 0) := by
    unfold Esc.esc_To.f
    rw [if_pos (by omega), if_pos (by omega), if_pos (by rw [bs_size]; omega)]
    rfl
  exact Esc.esc_To.calls c (bs s) _ _ w he
theorem PenRet.val {B g c : Nat} {most : Int} {o : Except Int Pen} {w w' : World} {e : Ending} (h : PenRet B g c most o w e w') : ∃ v, e = .returned v := by
  obtain ⟨_, h⟩ := h
  cases o with
  | error k => obtain ⟨b, he, _⟩ := h; exact ⟨_, he⟩
  | ok q => exact ⟨_, h.1⟩
abbrev ownT (c : Nat) : S → S := if c = 2 then id else Esc.toL c
theorem PenAt.cells {w : World} {B g : Nat} {l : S} {c : Nat} {most left : Int} (h : PenAt w B g l c most left) : w.cell? ⟨g, 2, none⟩ = some (.int .u8 c) ∧ w.cell? ⟨g, 4, none⟩ = some (.int .i64 left) ∧ w.frozen? ⟨g, 4, none⟩ = false := by
  obtain ⟨_, p, v, _, hk, _⟩ := h
  exact ⟨(blk_cell hk 2).trans rfl, (blk_cell hk 4).trans rfl, blk_frozen hk 4⟩
set_option maxHeartbeats 1000000 in
set_option maxRecDepth 100000 in
theorem ptext_any (g B : Nat) (l t : S) (c : Nat) (most left : Int) (w : World) (h : PenAt w B g l c most left) (hc : 1 ≤ c ∧ c ≤ 3) (hl : (l.length : Int) ≤ most) (hm : most ≤ 1048576) (ht : t.length ≤ 1048576) (hBw : B ≤ w.heap.size) :
    Calls Tryz.prog 120 #[.pointer (some ⟨g, 0, none⟩), .string (bs t)] w (PenRet B g c most (addP most (l, left) (ownT c t)) w) := by
  obtain ⟨o, ho⟩ : ∃ o, addP most (l, left) (ownT c t) = o := ⟨_, rfl⟩
  rw [ho]
  have HO := Aside0.mk ho
  have HP := Aside0.mk h
  have m2 := h.cells.1
  clear ho
  by_cases h2 : c = 2
  · subst h2
    have hw := padd_any g B l t 2 most left w h hl hm (by omega) hBw
    have ho2 : addP most (l, left) t = o := HO.out
    rw [ho2] at hw
    clear h ho2
    go_enter Tryz.func120, Tryz.ntmps120
    go_wp2_with fail
    refine hw.mono ?_
    rintro e w2 hret
    obtain ⟨v, rfl⟩ := hret.val
    go_wp2
    go_ret
    exact hret
  · have hc0 : ((c : Int) == 2) = false := by rw [beq_eq_false_iff_ne]; omega
    have ho2 : addP most (l, left) (Esc.toL c t) = o := by rw [← HO.out]; unfold ownT; rw [if_neg h2]
    have hto := eto_any c t hc ht w
    have HL := Aside0.mk (toL_le (c : Int) t)
    clear h
    go_enter Tryz.func120, Tryz.ntmps120
    go_wp2_with fail
    refine hto.mono ?_
    rintro e w1 ⟨rfl, hb⟩
    have hw := padd_any g B l (Esc.toL c t) c most left w1 (HP.out.below hb) hl hm (by have := HL.out; omega) (Nat.le_trans hBw hb.size)
    rw [ho2] at hw
    have HS := Aside0.mk (PStep.of_below HP.out.lt hb)
    clear hto hb ho2 m2
    go_wp2_with fail
    refine hw.mono ?_
    rintro e w2 hret
    obtain ⟨v, rfl⟩ := hret.val
    go_wp2
    go_ret
    exact hret.after HS.out
theorem showP_le (x : Val) (hs : x.sm) : (showP x).length ≤ 4096 := by
  unfold showP
  split
  · rename_i hk
    have hl := ((chkV_iff _ _ _ _ _).1 hk).1
    unfold showV
    split
    · rename_i h1
      unfold leafV at hl
      rw [if_pos h1] at hl
      simp only [Bool.and_eq_true, decide_eq_true_eq] at hl
      exact hl.1.1
    · split
      · split <;> decide
      · have hsm := hs.2.2
        split
        · have := Lib.itoa_length_le x.n hsm.1.1 hsm.1.2; omega
        · have h2 := hsm.2.1; have := Lib.itoa_length_le (x.i.len : Int) (by omega) (by omega); omega
  · simp
set_option maxHeartbeats 1000000 in
set_option maxRecDepth 100000 in
theorem pshow_any (g B : Nat) (l : S) (x : Val) (A3 : Option Addr) (c3 : Nat) (A4 : Option Addr) (c4 : Nat) (c : Nat) (most left : Int) (w : World) (h : PenAt w B g l c most left) (hT : GTab w) (hx : x.fit) (hR : RdV w x A3 c3 A4 c4) (hc : 1 ≤ c ∧ c ≤ 3) (hl : (l.length : Int) ≤ most) (hm : most ≤ 1048576) (hBw : B ≤ w.heap.size) :
    Calls Tryz.prog 123 #[.pointer (some ⟨g, 0, none⟩), vAgg x A3 c3 A4 c4] w (PenRet B g c most (addP most (l, left) (Esc.toL c (showP x))) w) := by
  obtain ⟨o, ho⟩ : ∃ o, addP most (l, left) (Esc.toL c (showP x)) = o := ⟨_, rfl⟩
  rw [ho]
  have HO := Aside0.mk ho
  have HP := Aside0.mk h
  have hb1 := below_alloc (Below.refl w.heap.size w) (vObj x.k x.t x.n x.i x.m A3 c3 A4 c4)
  have BK := blk_new w (vObj x.k x.t x.n x.i x.m A3 c3 A4 c4)
  have hsh : ∃ y : Int, Calls Tryz.prog 160 #[vAgg x A3 c3 A4 c4] (w.alloc (vObj x.k x.t x.n x.i x.m A3 c3 A4 c4)) fun e w' => e = .returned (.tuple #[.string (bs (showP x)), .int .i64 y]) ∧ Below (w.alloc (vObj x.k x.t x.n x.i x.m A3 c3 A4 c4)).heap.size (w.alloc (vObj x.k x.t x.n x.i x.m A3 c3 A4 c4)) w' := ⟨_, vshow_any x.k x.t x.n x.i x.m A3 c3 A4 c4 (w.alloc (vObj x.k x.t x.n x.i x.m A3 c3 A4 c4)) hx.1 (hR.1.below hb1) (hR.2.below hb1) hx.2 (hT.below hb1)⟩
  obtain ⟨y, hsh⟩ := hsh
  obtain ⟨k, t, n, i, m⟩ := x
  obtain ⟨z0, z1, z2, z3, z4, -⟩ := cells_5 BK
  have HX := Aside0.mk hx
  clear ho hT hR BK hx h
  go_enter Tryz.func123, Tryz.ntmps123
  go_wp2_with fail
  refine hsh.mono ?_
  rintro e w1 ⟨rfl, hb⟩
  have hB := below_step hb1 hb
  have HS := Aside0.mk (PStep.of_below HP.out.lt hB)
  have hP1 := HP.out.below hB
  have m2 := hP1.cells.1
  have HP1 := Aside0.mk hP1
  have hBw1 := Nat.le_trans hBw hB.size
  have hto := eto_any c (showP ⟨k, t, n, i, m⟩) hc (by have := showP_le _ HX.out.1; omega) w1
  clear hsh hb hB hb1 z0 z1 z2 z3 z4 hP1
  go_wp2_with fail
  refine hto.mono ?_
  rintro e w2 ⟨rfl, hb⟩
  have hw := padd_any g B l (Esc.toL c (showP ⟨k, t, n, i, m⟩)) c most left w2 (HP1.out.below hb) hl hm (by have h1 := showP_le _ HX.out.1; have h2 := toL_le (c : Int) (showP ⟨k, t, n, i, m⟩); omega) (Nat.le_trans hBw1 hb.size)
  rw [HO.out] at hw
  have HS2 := Aside0.mk (PStep.of_below HP1.out.lt hb)
  clear hto hb m2
  go_wp2_with fail
  refine hw.mono ?_
  rintro e w3 hret
  obtain ⟨v, rfl⟩ := hret.val
  go_wp2
  go_ret
  exact (hret.after HS2.out).after HS.out
end Go.Proofs.YtniibpndgcndbaaGreatDoor.Tpl
namespace Go.Proofs.YtniibpndgcndbaaGreatDoor.Tpl
open Go.RowKit Go.Proofs Go.Proofs.YtniibpndgcndbaaGreatDoor.PB Go.Proofs.YtniibpndgcndbaaGreatDoor.Short Go.Proofs.YtniibpndgcndbaaGreatDoorW.PrintWords Go.Proofs.YtniibpndgcndbaaGreatDoorW.PrintLast Go.Proofs.YtniibpndgcndbaaGreatDoorW.PrintMore
theorem heapN : Kd.Heap kN := Kd.heap_fix (fun _ hd => Kd.heap_iso _ (Kd.heap_pair (Kd.heap_int _) (Kd.heap_pair Kd.heap_string (Kd.heap_pair (Kd.heap_slice _ Kd.heap_string) (Kd.heap_pair (Kd.heap_slice _ hd) (Kd.heap_slice _ hd))))))
def FdN (w : World) (ok : Nat → Prop) (A : Option Addr) (c : Nat) (l : Nodes) : Prop := Kd.F kN w ok A l.len l.of ∧ l.len ≤ c
theorem Nodes.Rd.fd {w : World} {A : Option Addr} {c : Nat} {l : Nodes} (h : Nodes.Rd w A c l) : FdN w (fun k => k < w.heap.size) A c l := ⟨Kd.C_F heapN h.1, h.2⟩
theorem FdN.mono {w : World} {ok ok' : Nat → Prop} {A : Option Addr} {c : Nat} {l : Nodes} (h : FdN w ok A c l) (hk : ∀ k, ok k → ok' k) : FdN w ok' A c l := ⟨Kd.F_mono h.1 hk, h.2⟩
theorem FdN.pstep {w w1 : World} {g : Nat} {A : Option Addr} {c : Nat} {l : Nodes} (h : FdN w (Off w g) A c l) (hp : PStep g w w1) : FdN w1 (Off w1 g) A c l :=
  ⟨Kd.F_mono (Kd.F_step (Kd.F_bound h.1) (fun _ hk _ => hp.blk _ hk.2 hk.1)) (fun _ hk => hk.1.step hp hk.2), h.2⟩
theorem FdS.pstep {w w1 : World} {g : Nat} {A : Option Addr} {c : Nat} {l : List S} (h : FdS w (Off w g) A c l) (hp : PStep g w w1) : FdS w1 (Off w1 g) A c l :=
  ⟨Kd.F_mono (Kd.F_step (Kd.F_bound h.1) (fun _ hk _ => hp.blk _ hk.2 hk.1)) (fun _ hk => hk.1.step hp hk.2), h.2⟩
theorem FdV.pstep {w w1 : World} {g : Nat} {A : Option Addr} {c : Nat} {l : Vals} (h : FdV w (Off w g) A c l) (hp : PStep g w w1) : FdV w1 (Off w1 g) A c l :=
  ⟨Kd.F_mono (Kd.F_step (Kd.F_bound h.1) (fun _ hk _ => hp.blk _ hk.2 hk.1)) (fun _ hk => hk.1.step hp hk.2), h.2⟩
theorem FdN.at {w : World} {ok : Nat → Prop} {A : Option Addr} {c : Nat} {l : Nodes} (h : FdN w ok A c l) {j : Nat} {k t p a b r} (hd : l.drop j = .cons k t p a b r) :
    ∃ ad A2 c2 A3 c3 A4 c4, A = some ad ∧ w.cell? (ad.add (j * 5)) = some (.int .u8 k) ∧ w.cell? ⟨(ad.add (j * 5)).block, (ad.add (j * 5)).off + 1, none⟩ = some (.string (bs t)) ∧ w.cell? ⟨(ad.add (j * 5)).block, (ad.add (j * 5)).off + 2, none⟩ = some (.slice A2 p.length c2) ∧
      w.cell? ⟨(ad.add (j * 5)).block, (ad.add (j * 5)).off + 3, none⟩ = some (.slice A3 a.len c3) ∧ w.cell? ⟨(ad.add (j * 5)).block, (ad.add (j * 5)).off + 4, none⟩ = some (.slice A4 b.len c4) ∧ FdS w ok A2 c2 p ∧ FdN w ok A3 c3 a ∧ FdN w ok A4 c4 b := by
  obtain ⟨hl, _, hrd⟩ := Nodes.drop_step hd
  obtain ⟨ad, cs, rfl, _, hK, hc, _⟩ := Kd.F_get h.1 z37 (j : Int) (by omega) (by omega)
  rw [show l.of.getD ((j : Int)).toNat z37 = ⟨k, bs t, p.map bs, a.of, b.of⟩ from hrd] at hK
  obtain ⟨A2, c2, A3, c3, A4, c4, rfl, l2, F2, l3, F3, l4, F4⟩ := k37_openF hK
  simp only [List.length_map, Nodes.of_len] at l2 F2 l3 F3 l4 F4
  have hc' : ∀ q u, [Value.int .u8 k, .string (bs t), .slice A2 p.length c2, .slice A3 a.len c3, .slice A4 b.len c4][q]? = some u → w.cell? (ad.add (j * 5 + q)) = some u := by
    intro q u hq
    have h := hc q u (by simpa [Nodes.of_len] using hq)
    rwa [Int.toNat_natCast] at h
  refine ⟨ad, A2, c2, A3, c3, A4, c4, rfl, hc' 0 _ rfl, by rw [← add_field _ _ 1 (by omega)]; exact hc' 1 _ rfl, by rw [← add_field _ _ 2 (by omega)]; exact hc' 2 _ rfl, by rw [← add_field _ _ 3 (by omega)]; exact hc' 3 _ rfl, by rw [← add_field _ _ 4 (by omega)]; exact hc' 4 _ rfl, ⟨F2, l2⟩, ⟨F3, l3⟩, ⟨F4, l4⟩⟩
theorem PenAt.off_new {w : World} {B g : Nat} {l : S} {c : Nat} {most left : Int} (h : PenAt w B g l c most left) {k : Nat} (hk : w.heap.size ≤ k) : Off w g k := by
  have hg := h.lt
  obtain ⟨hB, p, v, hp, hb, ho, hn⟩ := h
  refine ⟨by omega, fun e => ?_⟩
  unfold bufOf at e
  rw [(blk_cell hb 1).trans rfl] at e
  have := own_lt ho k e.symm
  omega
theorem Off.below {w w1 : World} {g k : Nat} (h : Off w g k) (hg : g < w.heap.size) (hb : Below w.heap.size w w1) : Off w1 g k := ⟨h.1, by rw [bufOf_below hg hb]; exact h.2⟩
def Inv (most : Int) (st : Pen) : Prop := (st.1.length : Int) ≤ most ∧ 0 ≤ st.2 ∧ st.2 ≤ 1048576
theorem addP_inv {most : Int} {p q : Pen} {s : S} (hp : Inv most p) (h : addP most p s = .ok q) : Inv most q := by
  unfold addP at h
  split at h
  · cases h
  · cases h; exact ⟨by simp only [List.length_append]; omega, hp.2⟩
theorem fillP_inv {E F : S → S} {most : Int} (l : Nodes) : ∀ (rd : List Val) (p q : Pen), Inv most p → fillP E F most l rd p = .ok q → Inv most q := by
  induction l with
  | nil => intro rd p q hp h; cases h; exact hp
  | cons c t w a b r iha ihb ihr =>
    intro rd p q hp h
    rw [fillP_cons] at h
    cases ho : oneP E F most c t w a b rd p with
    | error e => rw [ho] at h; cases h
    | ok p' =>
      rw [ho] at h
      refine ihr rd p' q ?_ h
      unfold oneP at ho
      split at ho
      · cases ho
      have hd : Inv most (p.1, p.2 - 1) := ⟨hp.1, by simp only; omega, by have := hp.2.2; simp only; omega⟩
      split at ho
      · exact addP_inv hd ho
      split at ho
      · split at ho
        · split at ho
          · exact iha rd _ _ hd ho
          · exact ihb rd _ _ hd ho
        · split at ho
          · split at ho
            · exact eachP_keeps (P := Inv most) (fun v p q hp h => iha (v :: rd) p q hp h) _ _ _ hd ho
            · cases ho
          · exact addP_inv hd ho
      · split at ho
        · exact ihb rd _ _ hd ho
        · cases ho
theorem oneP_inv {E F : S → S} {most : Int} {c : Nat} {t : S} {w : List S} {a b : Nodes} {rd : List Val} {p q : Pen} (hp : Inv most p) (h : oneP E F most c t w a b rd p = .ok q) : Inv most q := by
  refine fillP_inv (E := E) (F := F) (Nodes.cons c t w a b .nil) rd p q hp ?_
  rw [fillP_cons, h]
  rfl
structure PenIn (w0 : World) (g c : Nat) (most : Int) (rd : List Val) (a : Option Addr) (st : Pen) (w : World) : Prop where
  pen : PenAt w w0.heap.size g st.1 c most st.2
  bel : Below w0.heap.size w0 w
  rnd : Rounds w (Off w g) a rd
  inv : Inv most st
theorem PenIn.step {w0 : World} {g c : Nat} {most : Int} {rd : List Val} {a : Option Addr} {st : Pen} {w : World} (h : PenIn w0 g c most rd a st w) {w1 : World} {st1 : Pen} (hp : PStep g w w1) (hpen : PenAt w1 w0.heap.size g st1.1 c most st1.2) (hi : Inv most st1) : PenIn w0 g c most rd a st1 w1 :=
  ⟨hpen, h.bel.trans (hp.belowP h.pen h.bel.size), h.rnd.pstep hp, hi⟩
end Go.Proofs.YtniibpndgcndbaaGreatDoor.Tpl
namespace Go.Proofs.YtniibpndgcndbaaGreatDoor.Tpl
open Go.RowKit Go.Proofs Go.Proofs.YtniibpndgcndbaaGreatDoor.PB Go.Proofs.YtniibpndgcndbaaGreatDoor.Short Go.Proofs.YtniibpndgcndbaaGreatDoorW.PrintWords Go.Proofs.YtniibpndgcndbaaGreatDoorW.PrintLast Go.Proofs.YtniibpndgcndbaaGreatDoorW.PrintMore
def FillC (w0 : World) (g c : Nat) (most : Int) (l : Nodes) : Prop :=
  ∀ (rd : List Val) (a A : Option Addr) (c0 : Nat) (st : Pen) (w : World), PenIn w0 g c most rd a st w → rd ≠ [] → (∀ x, x ∈ rd → x.fit) → FdN w (Off w g) A c0 l →
    Calls Tryz.prog 56 #[.pointer (some ⟨g, 0, none⟩), .slice A l.len c0, .pointer a] w (PenRet w0.heap.size g c most (fillP (ownT c) (Esc.toL c) most l rd st) w)
theorem fit_nth {x y : Val} {j : Nat} (h : x.fit) (hy : x.i.nth j = some y) : y.fit := ⟨sm_nth x.i h.1.2.2.2.2.2.2.1 hy, by have := cnt_nth x.i hy; have := h.2; omega⟩
abbrev nAgg (k : Nat) (t : S) (p : List S) (a b : Nodes) (A2 : Option Addr) (c2 : Nat) (A3 : Option Addr) (c3 : Nat) (A4 : Option Addr) (c4 : Nat) : Value := .agg #[.int .u8 k, .string (bs t), .slice A2 p.length c2, .slice A3 a.len c3, .slice A4 b.len c4]
abbrev nBox (k : Nat) (t : S) (p : List S) (a b : Nodes) (A2 : Option Addr) (c2 : Nat) (A3 : Option Addr) (c3 : Nat) (A4 : Option Addr) (c4 : Nat) : Obj := .cells #[.int .u8 k, .string (bs t), .slice A2 p.length c2, .slice A3 a.len c3, .slice A4 b.len c4] 37
set_option maxHeartbeats 2000000 in
set_option maxRecDepth 100000 in
theorem peach_any (w0 : World) (g c : Nat) (most : Int) (k : Nat) (t : S) (p : List S) (a b : Nodes) (hC : FillC w0 g c most a) (A2 : Option Addr) (c2 : Nat) (A3 : Option Addr) (c3 : Nat) (A4 : Option Addr) (c4 : Nat) (x : Val) (B3 : Option Addr) (d3 : Nat) (B4 : Option Addr) (d4 : Nat) (rd : List Val) (ar : Option Addr) (st : Pen) (w : World)
    (hI : PenIn w0 g c most rd ar st w) (hf : ∀ x, x ∈ rd → x.fit) (hx : x.fit) (hA : FdN w (Off w g) A3 c3 a) (hX : RV w (Off w g) x B3 d3 B4 d4) :
    Calls Tryz.prog 122 #[.pointer (some ⟨g, 0, none⟩), nAgg k t p a b A2 c2 A3 c3 A4 c4, vAgg x B3 d3 B4 d4, .pointer ar] w
      (PenRet w0.heap.size g c most (if x.k = 4 then eachP (fun y st => fillP (ownT c) (Esc.toL c) most a (y :: rd) st) x.i st else .error 7) w) := by
  obtain ⟨o, ho⟩ : ∃ o, (if x.k = 4 then eachP (fun y st => fillP (ownT c) (Esc.toL c) most a (y :: rd) st) x.i st else .error 7) = o := ⟨_, rfl⟩
  rw [ho]
  obtain ⟨vk, vt, vn, vi, vm⟩ := x
  have HO := Aside0.mk ho
  have HX0 := Aside0.mk hx
  have hlen : vi.len ≤ 1048576 := hx.1.2.2.2.1
  have hb1 : Below w.heap.size w ((w.alloc (nBox k t p a b A2 c2 A3 c3 A4 c4)).alloc (vObj vk vt vn vi vm B3 d3 B4 d4)) := below_alloc (below_alloc (Below.refl _ _) _) _
  have BK1 := blk_alloc (w := w.alloc (nBox k t p a b A2 c2 A3 c3 A4 c4)) (blk_new w (nBox k t p a b A2 c2 A3 c3 A4 c4)) (vObj vk vt vn vi vm B3 d3 B4 d4)
  have BK2 := blk_new (w.alloc (nBox k t p a b A2 c2 A3 c3 A4 c4)) (vObj vk vt vn vi vm B3 d3 B4 d4)
  rw [World.size_alloc] at BK2
  have hS := PStep.of_below hI.pen.lt hb1
  have HI := Aside0.mk (hI.step hS (hI.pen.below hb1) hI.inv)
  have HA := Aside0.mk (hA.pstep hS)
  have HX := Aside0.mk (hX.pstep hS)
  have HS := Aside0.mk hS
  have HF := Aside0.mk hf
  have hgl := hI.pen.lt
  have HO1 : Aside0 (Off ((w.alloc (nBox k t p a b A2 c2 A3 c3 A4 c4)).alloc (vObj vk vt vn vi vm B3 d3 B4 d4)) g w.heap.size) := ⟨(hI.pen.off_new (Nat.le_refl _)).below hgl hb1⟩
  have HO2 : Aside0 (Off ((w.alloc (nBox k t p a b A2 c2 A3 c3 A4 c4)).alloc (vObj vk vt vn vi vm B3 d3 B4 d4)) g (w.heap.size + 1)) := ⟨(hI.pen.off_new (Nat.le_succ _)).below hgl hb1⟩
  clear ho hI hS hA hX hf hb1 hgl hx
  go_enter Tryz.func122, Tryz.ntmps122
  go_upto_region 1 with (fail)
  generalize ((w.alloc (nBox k t p a b A2 c2 A3 c3 A4 c4)).alloc (vObj vk vt vn vi vm B3 d3 B4 d4)) = W at BK1 BK2 HI HA HX HS HO1 HO2 ⊢
  obtain ⟨b1, hb1⟩ : ∃ b, w.heap.size = b := ⟨_, rfl⟩
  rw [hb1] at BK1 BK2 HO1 HO2 ⊢
  clear hb1
  obtain ⟨z0, z1, z2, z3, z4, f0, f1, f2, f3, f4⟩ := cells_5 BK1
  obtain ⟨y0, y1, y2, y3, y4, q0, q1, q2, q3, q4⟩ := cells_5 BK2
  have HK1 := Aside0.mk BK1
  have HK2 := Aside0.mk BK2
  clear BK1 BK2
  by_cases h4 : vk = 4
  · subst h4
    have HO' : Aside0 (eachP (fun y st => fillP (ownT c) (Esc.toL c) most a (y :: rd) st) vi st = o) := ⟨by rw [← HO.out]; rfl⟩
    clear HO
    go_wp2
    go_loopw [21] (fun v wr => ∃ (j : Nat) (st : Pen), v = .int .i64 j ∧ j ≤ vi.len ∧ Aside0 (eachP (fun y st => fillP (ownT c) (Esc.toL c) most a (y :: rd) st) (vi.drop j) st = o) ∧ Aside0 (PenIn w0 g c most rd ar st wr) ∧ Aside0 (PStep g W wr)) (fun v _ => vi.len - (intOf v).toNat)
    case atStart => exact ⟨0, st, rfl, Nat.zero_le _, ⟨by rw [Vals.drop_zero]; exact HO'.out⟩, HI, ⟨PStep.refl _ _⟩⟩
    case round =>
      clear z0 z1 z2 z3 z4 f0 f1 f2 f3 f4 y0 y1 y2 y3 y4 q0 q1 q2 q3 q4 HI HO'
      obtain ⟨j, st, rfl, hj, HO, HI, HW⟩ := hrel
      cases hd : vi.drop j with
      | nil =>
        have h1 := Vals.drop_nil hd
        obtain rfl : j = vi.len := by omega
        have ho : Except.ok st = o := by rw [← HO.out, hd]; rfl
        clear hd
        subst ho
        go_wp2
        go_ret
        exact ⟨HS.out.trans HW.out, rfl, HI.out.pen⟩
      | cons k' t' n' i' m' r' =>
        obtain ⟨ad, A3', c3', A4', c4', rfl, y0, y1, y2, y3, y4, hF3, hF4⟩ := (HX.out.pstep HW.out).1.at hd
        obtain ⟨h1, h2, _⟩ := Vals.drop_step hd
        have n3 : wr.cell? ⟨b1, 3, none⟩ = some (.slice A3 a.len c3) := (blk_cell (HW.out.blkOf HK1.out HO1.out) 3).trans rfl
        have hb2 : Below wr.heap.size wr ((wr.alloc (vBox k' t' n' A3' i'.len c3' A4' m'.length c4')).alloc (rObj ⟨k', t', n', i', m'⟩ A3' c3' A4' c4' ar)) := below_alloc (below_alloc (Below.refl _ _) _) _
        have BKr := blk_new (wr.alloc (vBox k' t' n' A3' i'.len c3' A4' m'.length c4')) (rObj ⟨k', t', n', i', m'⟩ A3' c3' A4' c4' ar)
        rw [World.size_alloc] at BKr
        have hS2 := PStep.of_below HI.out.pen.lt hb2
        have hRV : RV wr (Off wr g) ⟨k', t', n', i', m'⟩ A3' c3' A4' c4' := ⟨hF3, hF4⟩
        have hI2 : PenIn w0 g c most (⟨k', t', n', i', m'⟩ :: rd) (some ⟨wr.heap.size + 1, 0, none⟩) st ((wr.alloc (vBox k' t' n' A3' i'.len c3' A4' m'.length c4')).alloc (rObj ⟨k', t', n', i', m'⟩ A3' c3' A4' c4' ar)) := by
          have h := HI.out.step hS2 (HI.out.pen.below hb2) HI.out.inv
          exact ⟨h.pen, h.bel, ⟨_, A3', c3', A4', c4', ar, rfl, (HI.out.pen.off_new (Nat.le_succ _)).below HI.out.pen.lt hb2, BKr, hRV.pstep hS2, h.rnd⟩, h.inv⟩
        have hfy : (⟨k', t', n', i', m'⟩ : Val).fit := fit_nth HX0.out (Vals.nth_drop vi hd)
        have hcall := hC (⟨k', t', n', i', m'⟩ :: rd) (some ⟨wr.heap.size + 1, 0, none⟩) A3 c3 st _ hI2 (by simp) (fun z hz => by rcases List.mem_cons.1 hz with h | h; exact h ▸ hfy; exact HF.out z h) ((HA.out.pstep HW.out).pstep hS2)
        have HS2 := Aside0.mk (HS.out.trans (HW.out.trans hS2))
        have HW2 := Aside0.mk (HW.out.trans hS2)
        have HS3 := Aside0.mk hS2
        have HO2 : Aside0 (thenE (fillP (ownT c) (Esc.toL c) most a (⟨k', t', n', i', m'⟩ :: rd) st) (eachP (fun y st => fillP (ownT c) (Esc.toL c) most a (y :: rd) st) (vi.drop (j + 1))) = o) := ⟨by rw [← HO.out, hd, h2]; rfl⟩
        have BKn := blk_new wr (vBox k' t' n' A3' i'.len c3' A4' m'.length c4')
        have n3' : (wr.alloc (vBox k' t' n' A3' i'.len c3' A4' m'.length c4')).cell? ⟨b1, 3, none⟩ = some (.slice A3 a.len c3) := pw_cell_below (below_alloc (Below.refl _ _) _) n3
        have hsz : (wr.alloc (vBox k' t' n' A3' i'.len c3' A4' m'.length c4')).heap.size = wr.heap.size + 1 := by rw [World.size_alloc]
        clear hd h2 hF3 hF4 hb2 BKr hS2 hRV hI2 hfy n3
        go_upto_region 6 with (fail)
        clear y0 y1 y2 y3 y4
        generalize wr.alloc (vBox k' t' n' A3' i'.len c3' A4' m'.length c4') = W1 at hcall HS2 HW2 HS3 BKn n3' hsz ⊢
        obtain ⟨gx, hgx⟩ : ∃ g, wr.heap.size = g := ⟨_, rfl⟩
        rw [hgx] at BKn hcall hsz ⊢
        clear hgx
        obtain ⟨y0, y1, y2, y3, y4, -⟩ := cells_5 BKn
        clear BKn
        go_wp2_with fail
        with_reducible refine hcall.mono ?_
        rintro e w2 hret
        cases h1 : fillP (ownT c) (Esc.toL c) most a (⟨k', t', n', i', m'⟩ :: rd) st with
        | error er =>
          rw [h1] at hret
          obtain ⟨hp, bk, rfl, hk⟩ := hret
          have ho : Except.error er = o := by rw [← HO2.out, h1]; rfl
          subst ho
          go_wp2
          go_ret
          exact ⟨HS2.out.trans hp, bk, rfl, hk⟩
        | ok st2 =>
          rw [h1] at hret
          obtain ⟨hp, rfl, hpen⟩ := hret
          have HO3 : Aside0 (eachP (fun y st => fillP (ownT c) (Esc.toL c) most a (y :: rd) st) (vi.drop (j + 1)) st2 = o) := ⟨by rw [← HO2.out, h1]; rfl⟩
          have HI3 : Aside0 (PenIn w0 g c most rd ar st2 w2) := ⟨HI.out.step (HS3.out.trans hp) hpen (fillP_inv a _ _ _ HI.out.inv h1)⟩
          have HW3 := Aside0.mk (HW2.out.trans hp)
          clear hp hpen hcall h1
          go_wp2_with fail
          go_roundw
          case rel => exact ⟨j + 1, st2, by simp, by omega, HO3, HI3, HW3⟩
          case measure => simp [intOf]; omega
  · have ho : Except.error 7 = o := by rw [← HO.out, if_neg h4]
    subst ho
    have e4 : ((vk : Int) == 4) = false := by rw [beq_eq_false_iff_ne]; omega
    go_wp2
    go_ret
    exact ⟨HS.out.trans (PStep.of_below HI.out.pen.lt (below_alloc (Below.refl _ _) _)), _, rfl, blk_new _ _⟩
end Go.Proofs.YtniibpndgcndbaaGreatDoor.Tpl
namespace Go.Proofs.YtniibpndgcndbaaGreatDoor.Tpl
open Go.RowKit Go.Proofs Go.Proofs.YtniibpndgcndbaaGreatDoor.PB Go.Proofs.YtniibpndgcndbaaGreatDoor.Short Go.Proofs.YtniibpndgcndbaaGreatDoorW.PrintWords Go.Proofs.YtniibpndgcndbaaGreatDoorW.PrintLast Go.Proofs.YtniibpndgcndbaaGreatDoorW.PrintMore
def OneC (w0 : World) (g c : Nat) (most : Int) (k : Nat) (t : S) (p : List S) (a b : Nodes) : Prop :=
  ∀ (rd : List Val) (ar A2 : Option Addr) (c2 : Nat) (A3 : Option Addr) (c3 : Nat) (A4 : Option Addr) (c4 : Nat) (st : Pen) (w : World), PenIn w0 g c most rd ar st w → rd ≠ [] → (∀ x, x ∈ rd → x.fit) → FdS w (Off w g) A2 c2 p → FdN w (Off w g) A3 c3 a → FdN w (Off w g) A4 c4 b →
    Calls Tryz.prog 81 #[.pointer (some ⟨g, 0, none⟩), nAgg k t p a b A2 c2 A3 c3 A4 c4, .pointer ar] w (PenRet w0.heap.size g c most (oneP (ownT c) (Esc.toL c) most k t p a b rd st) w)
set_option maxHeartbeats 2000000 in
set_option maxRecDepth 100000 in
theorem pfill_of (w0 : World) (g c : Nat) (most : Int) (l : Nodes) (hl : l.len ≤ 1048576) (hO : ∀ j k t p a b r, l.drop j = .cons k t p a b r → OneC w0 g c most k t p a b) : FillC w0 g c most l := by
  intro rd ar A c0 st w hI hne hf hA
  obtain ⟨o, ho⟩ : ∃ o, fillP (ownT c) (Esc.toL c) most l rd st = o := ⟨_, rfl⟩
  rw [ho]
  have HO := Aside0.mk ho
  have HC := Aside0.mk hO
  have HI := Aside0.mk hI
  have HF := Aside0.mk hf
  have HA := Aside0.mk hA
  clear ho hO hI hf hA
  go_enter Tryz.func56, Tryz.ntmps56
  go_wp2
  go_loopw [12] (fun v wr => ∃ (j : Nat) (st : Pen), v = .int .i64 j ∧ j ≤ l.len ∧ Aside0 (fillP (ownT c) (Esc.toL c) most (l.drop j) rd st = o) ∧ Aside0 (PenIn w0 g c most rd ar st wr) ∧ Aside0 (PStep g w wr)) (fun v _ => l.len - (intOf v).toNat)
  case atStart => exact ⟨0, st, rfl, Nat.zero_le _, ⟨by rw [Nodes.drop_zero]; exact HO.out⟩, HI, ⟨PStep.refl _ _⟩⟩
  case round =>
    clear HI HO
    obtain ⟨j, st, rfl, hj, HO, HI, HW⟩ := hrel
    cases hd : l.drop j with
    | nil =>
      have h1 := Nodes.drop_nil hd
      obtain rfl : j = l.len := by omega
      have ho : Except.ok st = o := by rw [← HO.out, hd]; rfl
      clear hd
      subst ho
      go_wp2
      go_ret
      exact ⟨HW.out, rfl, HI.out.pen⟩
    | cons k t p a b r =>
      obtain ⟨ad, A2, c2, A3, c3, A4, c4, rfl, y0, y1, y2, y3, y4, hF2, hF3, hF4⟩ := (HA.out.pstep HW.out).at hd
      obtain ⟨h1, h2, _⟩ := Nodes.drop_step hd
      have hb := below_alloc (Below.refl wr.heap.size wr) (nBox k t p a b A2 c2 A3 c3 A4 c4)
      have hS := PStep.of_below HI.out.pen.lt hb
      have hcall := HC.out j k t p a b r hd rd ar A2 c2 A3 c3 A4 c4 st _ (HI.out.step hS (HI.out.pen.below hb) HI.out.inv) hne HF.out (hF2.pstep hS) (hF3.pstep hS) (hF4.pstep hS)
      have HO2 : Aside0 (thenE (oneP (ownT c) (Esc.toL c) most k t p a b rd st) (fillP (ownT c) (Esc.toL c) most (l.drop (j + 1)) rd) = o) := ⟨by rw [← HO.out, hd, h2, fillP_cons]⟩
      have BKn := blk_new wr (nBox k t p a b A2 c2 A3 c3 A4 c4)
      have HS := Aside0.mk hS
      clear hd h2 hF2 hF3 hF4 hS hb
      go_upto_region 4 with (fail)
      clear y0 y1 y2 y3 y4
      generalize wr.alloc (nBox k t p a b A2 c2 A3 c3 A4 c4) = W1 at hcall HS BKn ⊢
      obtain ⟨y0, y1, y2, y3, y4, -⟩ := cells_5 BKn
      clear BKn
      go_wp2_with fail
      with_reducible refine hcall.mono ?_
      rintro e w2 hret
      cases h1 : oneP (ownT c) (Esc.toL c) most k t p a b rd st with
      | error er =>
        rw [h1] at hret
        obtain ⟨hp, bk, rfl, hk⟩ := hret
        have ho : Except.error er = o := by rw [← HO2.out, h1]; rfl
        subst ho
        go_wp2
        go_ret
        exact ⟨HW.out.trans (HS.out.trans hp), bk, rfl, hk⟩
      | ok st2 =>
        rw [h1] at hret
        obtain ⟨hp, rfl, hpen⟩ := hret
        have HO3 : Aside0 (fillP (ownT c) (Esc.toL c) most (l.drop (j + 1)) rd st2 = o) := ⟨by rw [← HO2.out, h1]; rfl⟩
        have HI3 : Aside0 (PenIn w0 g c most rd ar st2 w2) := ⟨HI.out.step (HS.out.trans hp) hpen (oneP_inv HI.out.inv h1)⟩
        have HW3 := Aside0.mk (HW.out.trans (HS.out.trans hp))
        clear hp hpen hcall h1
        go_wp2_with fail
        go_roundw
        case rel => exact ⟨j + 1, st2, by simp, by omega, HO3, HI3, HW3⟩
        case measure => simp [intOf]; omega
end Go.Proofs.YtniibpndgcndbaaGreatDoor.Tpl
namespace Go.Proofs.YtniibpndgcndbaaGreatDoor.Tpl
open Go.RowKit Go.Proofs Go.Proofs.YtniibpndgcndbaaGreatDoor.PB Go.Proofs.YtniibpndgcndbaaGreatDoor.Short Go.Proofs.YtniibpndgcndbaaGreatDoorW.PrintWords Go.Proofs.YtniibpndgcndbaaGreatDoorW.PrintLast Go.Proofs.YtniibpndgcndbaaGreatDoorW.PrintMore
theorem pstep_dec {w : World} {g : Nat} {cs : Array Value} {t : TypeId} (hk : w.heap[g]? = some (.cells cs t (0, 0))) (n : Nat) (hn : n ≠ 1) (v : Value) : PStep g w (w.setCell ⟨g, n, none⟩ v) := by
  refine ⟨rfl, rfl, rfl, by simp [World.setCell], fun k _ ho => Below.heap_setCell _ _ _ _ ho.1, .inl ?_⟩
  unfold bufOf
  rw [blk_cell hk 1]
  by_cases h : n < cs.size
  · rw [blk_cell (blk_put hk n v rfl) 1]
    congr 1
    simp [Array.getElem?_setIfInBounds_ne hn]
  · rw [blk_cell (blk_put hk n v rfl) 1]
    congr 1
    simp [Array.getElem?_setIfInBounds_ne hn]
theorem PenAt.dec {w : World} {B g : Nat} {l : S} {c : Nat} {most left : Int} (h : PenAt w B g l c most left) (n : Int) : PenAt (w.setCell ⟨g, 4, none⟩ (.int .i64 n)) B g l c most n ∧ PStep g w (w.setCell ⟨g, 4, none⟩ (.int .i64 n)) := by
  obtain ⟨hB, p, v, hp, hk, ho, hn⟩ := h
  have hne := own_neB ho hk (by decide)
  exact ⟨⟨hB, p, v, hp, blk_put hk 4 _ rfl, own_other ho (row := some g) ⟨rfl, rfl, rfl, by simp [World.setCell], fun k _ hk => Below.heap_setCell _ _ _ _ (fun e => hk (by simp [e]))⟩ (.inr hne), hn⟩, pstep_dec hk 4 (by decide) _⟩
theorem ResV.fit {p : List S} {rd : List Val} {ok : Nat → Prop} {w' : World} {x : Val} {k : Int} {E3 : Option Addr} {f3 : Nat} {E4 : Option Addr} {f4 : Nat} (h : ResV (meansP p rd) ok w' x k E3 f3 E4 f4) (hf : ∀ x, x ∈ rd → x.fit) : x.fit := by
  obtain ⟨_, h⟩ := h
  cases hm : meansP p rd with
  | error e => rw [hm] at h; obtain ⟨_, rfl, _⟩ := h; exact ⟨⟨by decide, by decide, ⟨by decide, by decide⟩, by decide, by decide, by simp [Val.zero], trivial, trivial⟩, by decide⟩
  | ok y => rw [hm] at h; obtain ⟨rfl, _⟩ := h; exact fit_of (means_ok (fun v hv => (hf v hv).1) hm)
set_option maxHeartbeats 2000000 in
set_option maxRecDepth 100000 in
theorem pone_any (w0 : World) (g c : Nat) (most : Int) (k : Nat) (t : S) (p : List S) (a b : Nodes) (hG : GTab w0) (hc : 1 ≤ c ∧ c ≤ 3) (hm : most ≤ 1048576) (ht : t.length ≤ 1048576) (hp : p.length ≤ 1048576) (hCa : FillC w0 g c most a) (hCb : FillC w0 g c most b) : OneC w0 g c most k t p a b := by
  intro rd ar A2 c2 A3 c3 A4 c4 st w hI hne hf h2 h3 h4
  obtain ⟨o, ho⟩ : ∃ o, oneP (ownT c) (Esc.toL c) most k t p a b rd st = o := ⟨_, rfl⟩
  rw [ho]
  obtain ⟨sl, sn⟩ := st
  have HO := Aside0.mk ho
  have HCa := Aside0.mk hCa
  have HCb := Aside0.mk hCb
  have HG := Aside0.mk hG
  have HF := Aside0.mk hf
  have hin : 0 ≤ sn ∧ sn ≤ 1048576 := hI.inv.2
  have hb1 := below_alloc (Below.refl w.heap.size w) (nBox k t p a b A2 c2 A3 c3 A4 c4)
  have BK1 := blk_new w (nBox k t p a b A2 c2 A3 c3 A4 c4)
  have hS1 := PStep.of_below hI.pen.lt hb1
  have hI1 := hI.step hS1 (hI.pen.below hb1) hI.inv
  have hO1 : Off (w.alloc (nBox k t p a b A2 c2 A3 c3 A4 c4)) g w.heap.size := (hI.pen.off_new (Nat.le_refl _)).below hI.pen.lt hb1
  have h2' := h2.pstep hS1
  have h3' := h3.pstep hS1
  have h4' := h4.pstep hS1
  have m4 := hI1.pen.cells.2.1
  have m4f := hI1.pen.cells.2.2
  have HS1 := Aside0.mk hS1
  have HI1 := Aside0.mk hI1
  have HO1 := Aside0.mk hO1
  have H2 := Aside0.mk h2'
  have H3 := Aside0.mk h3'
  have H4 := Aside0.mk h4'
  have HK1 := Aside0.mk BK1
  clear ho hCa hCb hG hf hI h2 h3 h4 hb1 BK1 hS1 hI1 hO1 h2' h3' h4'
  go_enter Tryz.func81, Tryz.ntmps81
  go_upto_region 1 with (fail)
  generalize w.alloc (nBox k t p a b A2 c2 A3 c3 A4 c4) = W at m4 m4f HS1 HI1 HO1 H2 H3 H4 HK1 ⊢
  obtain ⟨b1, hb1⟩ : ∃ g, w.heap.size = g := ⟨_, rfl⟩
  rw [hb1] at HO1 HK1 ⊢
  clear hb1
  simp only at m4
  go_upto_region 2 with (fail)
  have hS2 := (HI1.out.pen.dec (sn - 1)).2
  have hP2 := (HI1.out.pen.dec (sn - 1)).1
  have HS2 := Aside0.mk (HS1.out.trans hS2)
  have h2' := H2.out.pstep hS2
  have h3' := H3.out.pstep hS2
  have h4' := H4.out.pstep hS2
  have hR2 := HI1.out.rnd.pstep hS2
  have hB2 := HI1.out.bel.trans (hS2.belowP HI1.out.pen HI1.out.bel.size)
  have K2 := hS2.blkOf HK1.out HO1.out
  have hO2 := HO1.out.step hS2 (blk_lt HK1.out)
  have hsl : (sl.length : Int) ≤ most := HI1.out.inv.1
  clear m4 m4f HS1 HI1 HO1 H2 H3 H4 HK1 hS2
  generalize W.setCell ⟨g, 4, none⟩ (.int .i64 (sn - 1)) = W2 at hP2 HS2 h2' h3' h4' hR2 hB2 K2 hO2 ⊢
  have m4 := hP2.cells.2.1
  have HP2 := Aside0.mk hP2
  have H2 := Aside0.mk h2'
  have H3 := Aside0.mk h3'
  have H4 := Aside0.mk h4'
  have HR2 := Aside0.mk hR2
  have HB2 := Aside0.mk hB2
  have HO2 := Aside0.mk hO2
  have HK2 := Aside0.mk K2
  obtain ⟨y0, y1, y2, y3, y4, -⟩ := cells_5 K2
  clear hP2 h2' h3' h4' hR2 hB2 K2 hO2
  by_cases hneg : sn - 1 < 0
  · have hD : decide (sn - 1 < 0) = true := decide_eq_true hneg
    have ho : Except.error 12 = o := by rw [← HO.out]; unfold oneP; rw [if_pos hneg]
    subst ho
    go_wp2
    go_ret
    exact ⟨HS2.out.trans (PStep.of_below HP2.out.lt (below_alloc (Below.refl _ _) _)), _, rfl, blk_new _ _⟩
  have hD : decide (sn - 1 < 0) = false := decide_eq_false hneg
  by_cases hk1 : k = 1
  · have e1 : ((k : Int) == 1) = true := by rw [beq_iff_eq]; omega
    have hw := ptext_any g w0.heap.size sl t c most (sn - 1) W2 HP2.out hc hsl hm ht HB2.out.size
    have ho : addP most (sl, sn - 1) (ownT c t) = o := by rw [← HO.out]; unfold oneP; rw [if_neg hneg, if_pos hk1]
    rw [ho] at hw
    clear ho hneg hk1
    go_wp2_with fail
    refine hw.mono ?_
    rintro e w2 hret
    obtain ⟨v, rfl⟩ := hret.val
    go_wp2
    go_ret
    exact hret.after HS2.out
  have e1 : ((k : Int) == 1) = false := by rw [beq_eq_false_iff_ne]; omega
  have hfind := rfind_any ar rd (Off W2 g) A2 c2 p W2 hne HR2.out HF.out H2.out.rd hp
  have HO3 : Aside0 ((match meansP p rd with
    | .ok v => if k = 3 then (if holdsP v = true then fillP (ownT c) (Esc.toL c) most a rd (sl, sn - 1) else fillP (ownT c) (Esc.toL c) most b rd (sl, sn - 1))
      else if k = 5 then (if v.k = 4 then eachP (fun x st => fillP (ownT c) (Esc.toL c) most a (x :: rd) st) v.i (sl, sn - 1) else .error 7)
      else addP most (sl, sn - 1) (Esc.toL c (showP v))
    | .error e => if k = 3 then fillP (ownT c) (Esc.toL c) most b rd (sl, sn - 1) else .error e) = o) := ⟨by rw [← HO.out]; unfold oneP; rw [if_neg hneg, if_neg hk1]; rfl⟩
  have hi3 : 0 ≤ sn - 1 ∧ sn - 1 ≤ 1048576 := by omega
  clear HO hneg hk1
  go_wp2_with fail
  refine hfind.mono ?_
  rintro e w3 hret
  obtain ⟨hb3, v, kk, E3, f3, E4, f4, rfl, hres⟩ := hret.uni
  have hvf := hres.fit HF.out
  have hb4 := below_alloc (Below.refl w3.heap.size w3) (vObj v.k v.t v.n v.i v.m E3 f3 E4 f4)
  have BK4 := blk_new w3 (vObj v.k v.t v.n v.i v.m E3 f3 E4 f4)
  have hold : ∃ y : Int, Calls Tryz.prog 121 #[vAgg v E3 f3 E4 f4] (w3.alloc (vObj v.k v.t v.n v.i v.m E3 f3 E4 f4)) fun e w' => e = .returned (.tuple #[.bool (holdsP v), .int .i64 y]) ∧ Below (w3.alloc (vObj v.k v.t v.n v.i v.m E3 f3 E4 f4)).heap.size (w3.alloc (vObj v.k v.t v.n v.i v.m E3 f3 E4 f4)) w' := ⟨_, vholds_any v.k v.t v.n v.i v.m E3 f3 E4 f4 _ hvf.1 (hres.1.rd.1.below hb4) (RdS.below hres.1.rd.2 hb4) hvf.2⟩
  obtain ⟨yy, hold⟩ := hold
  have HRes := Aside0.mk hres
  have HB3 := Aside0.mk hb3
  have HB4 := Aside0.mk hb4
  have HVF := Aside0.mk hvf
  clear hfind hret hres hb3 hb4 y0 y1 y2 y3 y4 m4 hvf
  go_upto_region 7 with (fail)
  generalize w3.alloc (vObj v.k v.t v.n v.i v.m E3 f3 E4 f4) = W4 at BK4 hold HB4 ⊢
  obtain ⟨bx, hbx⟩ : ∃ g, w3.heap.size = g := ⟨_, rfl⟩
  rw [hbx] at BK4 ⊢
  clear hbx
  obtain ⟨x0, x1, x2, x3, x4, -⟩ := cells_5 BK4
  have HK4 := Aside0.mk BK4
  clear BK4
  go_wp2_with fail
  with_reducible refine hold.mono ?_
  rintro e w5 ⟨rfl, hb5⟩
  have hb := below_step HB3.out (below_step HB4.out hb5)
  have hS := PStep.of_below HP2.out.lt hb
  have HS5 := Aside0.mk (HS2.out.trans hS)
  have HI5 : Aside0 (PenIn w0 g c most rd ar (sl, sn - 1) w5) := ⟨⟨HP2.out.below hb, HB2.out.trans (hS.belowP HP2.out HB2.out.size), HR2.out.pstep hS, hsl, hi3⟩⟩
  have HV5 : Aside0 (RV w5 (Off w5 g) v E3 f3 E4 f4) := ⟨(HRes.out.1.below (below_step HB4.out hb5)).mono (fun q hq => hq.elim (fun h => h.below HP2.out.lt hb) (fun h => (HP2.out.off_new h).below HP2.out.lt hb))⟩
  have H3' := Aside0.mk (H3.out.pstep hS)
  have H4' := Aside0.mk (H4.out.pstep hS)
  obtain ⟨y0, y1, y2, y3, y4, -⟩ := cells_5 (blk_below HK2.out hb)
  have K5 := blk_below HK4.out hb5
  clear x0 x1 x2 x3 x4 HK4 hold hb hb5 hS HB3 HB4 H3 H4
  obtain ⟨x0, x1, x2, x3, x4, -⟩ := cells_5 K5
  clear K5
  cases hmm : meansP p rd with
  | error j =>
    have hj := means_err hmm
    have hz := HRes.out.2
    rw [hmm] at hz
    obtain ⟨rfl, hv0, -⟩ := hz
    have HO4 : Aside0 ((if k = 3 then fillP (ownT c) (Esc.toL c) most b rd (sl, sn - 1) else .error kk) = o) := ⟨by rw [← HO3.out, hmm]⟩
    have ek : (kk == 0) = false := by rw [beq_eq_false_iff_ne]; omega
    clear hmm HO3 HRes hv0
    by_cases hk3 : k = 3
    · have e3 : ((k : Int) == 3) = true := by rw [beq_iff_eq]; omega
      have hw := HCb.out rd ar A4 c4 (sl, sn - 1) w5 HI5.out hne HF.out H4'.out
      have ho : fillP (ownT c) (Esc.toL c) most b rd (sl, sn - 1) = o := by rw [← HO4.out, if_pos hk3]
      rw [ho] at hw
      clear ho hk3
      go_wp2_with fail
      with_reducible refine hw.mono ?_
      rintro e w6 hret
      obtain ⟨v6, rfl⟩ := hret.val
      go_wp2
      go_ret
      exact hret.after HS5.out
    · have e3 : ((k : Int) == 3) = false := by rw [beq_eq_false_iff_ne]; omega
      have ho : Except.error kk = o := by rw [← HO4.out, if_neg hk3]
      subst ho
      clear hk3
      go_wp2
      go_ret
      exact ⟨HS5.out.trans (PStep.of_below HI5.out.pen.lt (below_alloc (Below.refl _ _) _)), _, rfl, blk_new _ _⟩
  | ok y =>
    have hz := HRes.out.2
    rw [hmm] at hz
    obtain ⟨rfl, rfl⟩ := hz
    have HO4 : Aside0 ((if k = 3 then (if holdsP v = true then fillP (ownT c) (Esc.toL c) most a rd (sl, sn - 1) else fillP (ownT c) (Esc.toL c) most b rd (sl, sn - 1)) else if k = 5 then (if v.k = 4 then eachP (fun x st => fillP (ownT c) (Esc.toL c) most a (x :: rd) st) v.i (sl, sn - 1) else .error 7) else addP most (sl, sn - 1) (Esc.toL c (showP v))) = o) := ⟨by rw [← HO3.out, hmm]⟩
    clear hmm HO3 HRes
    by_cases hk3 : k = 3
    · have e3 : ((k : Int) == 3) = true := by rw [beq_iff_eq]; omega
      cases hh : holdsP v with
      | true =>
        have hw := HCa.out rd ar A3 c3 (sl, sn - 1) w5 HI5.out hne HF.out H3'.out
        have ho : fillP (ownT c) (Esc.toL c) most a rd (sl, sn - 1) = o := by rw [← HO4.out, if_pos hk3, if_pos hh]
        rw [ho] at hw
        clear ho hk3 hh
        go_wp2_with fail
        with_reducible refine hw.mono ?_
        rintro e w6 hret
        obtain ⟨v6, rfl⟩ := hret.val
        go_wp2
        go_ret
        exact hret.after HS5.out
      | false =>
        have hw := HCb.out rd ar A4 c4 (sl, sn - 1) w5 HI5.out hne HF.out H4'.out
        have ho : fillP (ownT c) (Esc.toL c) most b rd (sl, sn - 1) = o := by rw [← HO4.out, if_pos hk3, if_neg (by rw [hh]; decide)]
        rw [ho] at hw
        clear ho hk3 hh
        go_wp2_with fail
        with_reducible refine hw.mono ?_
        rintro e w6 hret
        obtain ⟨v6, rfl⟩ := hret.val
        go_wp2
        go_ret
        exact hret.after HS5.out
    · have e3 : ((k : Int) == 3) = false := by rw [beq_eq_false_iff_ne]; omega
      generalize holdsP v = hh
      by_cases hk5 : k = 5
      · have e5 : ((k : Int) == 5) = true := by rw [beq_iff_eq]; omega
        have hw := peach_any w0 g c most k t p a b HCa.out A2 c2 A3 c3 A4 c4 v E3 f3 E4 f4 rd ar (sl, sn - 1) w5 HI5.out HF.out HVF.out H3'.out HV5.out
        have ho : (if v.k = 4 then eachP (fun x st => fillP (ownT c) (Esc.toL c) most a (x :: rd) st) v.i (sl, sn - 1) else .error 7) = o := by rw [← HO4.out, if_neg hk3, if_pos hk5]
        rw [ho] at hw
        clear ho hk3 hk5
        go_wp2_with fail
        with_reducible refine hw.mono ?_
        rintro e w6 hret
        obtain ⟨v6, rfl⟩ := hret.val
        go_wp2
        go_ret
        exact hret.after HS5.out
      · have e5 : ((k : Int) == 5) = false := by rw [beq_eq_false_iff_ne]; omega
        have hw := pshow_any g w0.heap.size sl v E3 f3 E4 f4 c most (sn - 1) w5 HI5.out.pen (HG.out.below HI5.out.bel) HVF.out HV5.out.rd hc hsl hm HI5.out.bel.size
        have ho : addP most (sl, sn - 1) (Esc.toL c (showP v)) = o := by rw [← HO4.out, if_neg hk3, if_neg hk5]
        rw [ho] at hw
        clear ho hk3 hk5
        go_wp2_with fail
        with_reducible refine hw.mono ?_
        rintro e w6 hret
        obtain ⟨v6, rfl⟩ := hret.val
        go_wp2
        go_ret
        exact hret.after HS5.out
theorem pfill_any (w0 : World) (g c : Nat) (most : Int) (hG : GTab w0) (hc : 1 ≤ c ∧ c ≤ 3) (hm : most ≤ 1048576) (l : Nodes) : l.sm → l.len ≤ 1048576 → FillC w0 g c most l := by
  have key : ∀ l : Nodes, l.sm → (∀ j k t p a b r, l.drop j = .cons k t p a b r → OneC w0 g c most k t p a b) := by
    intro l
    induction l with
    | nil => intro _ j k t p a b r h; cases j <;> simp [Nodes.drop] at h
    | cons k' t' p' a' b' r' iha ihb ihr =>
      intro hs j k t p a b r h
      obtain ⟨s1, s2, s3, s4, s5, s6, s7, s8, s9⟩ := hs
      cases j with
      | zero =>
        simp only [Nodes.drop, Nodes.cons.injEq] at h
        obtain ⟨rfl, rfl, rfl, rfl, rfl, rfl⟩ := h
        exact pone_any w0 g c most _ _ _ _ _ hG hc hm s2 s3 (pfill_of w0 g c most _ s5 (iha s7)) (pfill_of w0 g c most _ s6 (ihb s8))
      | succ j => exact ihr s9 j k t p a b r h
  exact fun hs hl => pfill_of w0 g c most l hl (key l hs)
end Go.Proofs.YtniibpndgcndbaaGreatDoor.Tpl
namespace Go.Proofs.YtniibpndgcndbaaGreatDoor.Tpl
open Go.RowKit Go.Proofs Go.Extern.Stop Go.Stop Go.Extern Go.Proofs.YtniibpndgcndbaaGreatDoor.PB Go.Proofs.YtniibpndgcndbaaGreatDoor.Short Go.Proofs.YtniibpndgcndbaaGreatDoorW.PrintWords Go.Proofs.YtniibpndgcndbaaGreatDoorW.PrintLast Go.Proofs.YtniibpndgcndbaaGreatDoorW.PrintMore
theorem as_nil (t : Value) (w : World) :
    Calls Tryz.prog 79 #[.nilIface, t] w fun e w' => e = .returned (.bool false) ∧ w' = w := by
  go_enter Tryz.func79, Tryz.ntmps79
  go_wp2
  go_ret
  exact ⟨rfl, rfl⟩
theorem as_valueOf27 (t : Addr) (w : World) : (ReflectliteValue.unpack (.iface 121 (.pointer (some t)))).run Tryz.prog w
    = .ok (.agg #[.pointer (some ⟨9, 121, none⟩), .pointer (some ⟨w.heap.size, 0, none⟩), .int .u64 150]) (w.alloc (.cells #[.pointer (some t)] 121)) := by kernel_rfl
theorem as_type27 (a : Addr) (w : World) : (ReflectliteValue.methodAny (ReflectliteValue.valueError "reflectlite.Value.Type" 0) (fun t _ _ _ => ReflectliteType.toType t) #[.agg #[.pointer (some ⟨9, 121, none⟩), .pointer (some a), .int .u64 150]]).run Tryz.prog w
    = .ok (.iface 207 (.agg #[.pointer (some ⟨9, 121, none⟩)])) w := by kernel_rfl
theorem as_methodKind (h : Value) (w : World) : (Go.method 395 207 (.agg #[h]) "Kind").run Tryz.prog w = .ok (229, h) w := by kernel_rfl
theorem as_kind27 (w : World) : ((ReflectliteType.abiMethod fun t => (fun a : Nat => Value.int IntKind.u8 (a : Int)) <$> Rtype.kind t) #[.pointer (some ⟨9, 121, none⟩)]).run Tryz.prog w = .ok (.int .u8 22) w := by kernel_rfl
theorem as_kind25 (w : World) : ((ReflectliteType.abiMethod fun t => (fun a : Nat => Value.int IntKind.u8 (a : Int)) <$> Rtype.kind t) #[.pointer (some ⟨9, 119, none⟩)]).run Tryz.prog w = .ok (.int .u8 22) w := by kernel_rfl
theorem as_rlm (z : Sem Value) (f : TypeId → Addr → Nat → Nat → Sem Value) (v : Value) :
    ReflectliteValue.method z f #[v] = (do match ← ReflectliteValue.parts v with | none => z | some (t, a, fl) => f t a fl (fl % 32)) := rfl
theorem as_parts27 (a : Addr) (w : World) : (ReflectliteValue.parts (.agg #[.pointer (some ⟨9, 121, none⟩), .pointer (some a), .int .u64 150])).run Tryz.prog w = .ok (some (121, a, 150)) w := by kernel_rfl
theorem as_isNil27 (a p : Addr) (W : World) (ha : W.cell? a = some (.pointer (some p))) :
    (ReflectliteValue.method (ReflectliteValue.valueError "reflectlite.Value.IsNil" 0) ReflectliteValue.isNil #[.agg #[.pointer (some ⟨9, 121, none⟩), .pointer (some a), .int .u64 150]]).run Tryz.prog W = .ok (.bool false) W := by
  rw [as_rlm]
  simp only [Sem.run_bind, as_parts27, Result.andThen]
  simp [ReflectliteValue.isNil, loadVar, isAgg, underlying, Tryz.underlying121, ha, Result.andThen]
theorem as_methodElem (h : Value) (w : World) : (Go.method 395 207 (.agg #[h]) "Elem").run Tryz.prog w = .ok (242, .agg #[h]) w := by kernel_rfl
theorem as_methodImplements (h : Value) (w : World) : (Go.method 395 207 (.agg #[h]) "Implements").run Tryz.prog w = .ok (243, .agg #[h]) w := by kernel_rfl
theorem as_methodAssignableTo (h : Value) (w : World) : (Go.method 395 207 (.agg #[h]) "AssignableTo").run Tryz.prog w = .ok (240, .agg #[h]) w := by kernel_rfl
theorem as_elem27 (w : World) : (ReflectliteType.method ReflectliteType.elem #[.agg #[.pointer (some ⟨9, 121, none⟩)]]).run Tryz.prog w = .ok (.iface 207 (.agg #[.pointer (some ⟨9, 119, none⟩)])) w := by kernel_rfl
theorem as_implements25 (w : World) : (ReflectliteType.relation "Implements" ReflectliteType.implements_ #[.agg #[.pointer (some ⟨9, 119, none⟩)], .iface 207 (.agg #[.pointer (some ⟨9, 83, none⟩)])]).run Tryz.prog w = .ok (.bool true) w := by kernel_rfl
theorem as_typeOf25 (v : Value) (w : World) : (ReflectliteType.typeOf #[.iface 119 v]).run Tryz.prog w = .ok (.iface 207 (.agg #[.pointer (some ⟨9, 119, none⟩)])) w := by kernel_rfl
theorem as_assignable25 (w : World) : (ReflectliteType.relation "AssignableTo" ReflectliteType.assignableTo #[.agg #[.pointer (some ⟨9, 119, none⟩)], .iface 207 (.agg #[.pointer (some ⟨9, 119, none⟩)])]).run Tryz.prog w = .ok (.bool true) w := by kernel_rfl
theorem as_valueOf25 (e : Addr) (w : World) : (ReflectliteValue.unpack (.iface 119 (.pointer (some e)))).run Tryz.prog w
    = .ok (.agg #[.pointer (some ⟨9, 119, none⟩), .pointer (some ⟨w.heap.size, 0, none⟩), .int .u64 150]) (w.alloc (.cells #[.pointer (some e)] 119)) := by kernel_rfl
theorem as_elemOf27 (w : World) : (Rtype.elem? 121).run Tryz.prog w = .ok (some 119) w := by kernel_rfl
theorem as_mk25 (p : Addr) (w : World) : (ReflectliteValue.mk 119 p ReflectliteValue.flagAddr).run Tryz.prog w = .ok (.agg #[.pointer (some ⟨9, 119, none⟩), .pointer (some p), .int .u64 406]) w := by kernel_rfl
theorem as_elemV27 (a p : Addr) (W : World) (ha : W.cell? a = some (.pointer (some p))) :
    (ReflectliteValue.method (ReflectliteValue.valueError "reflectlite.Value.Elem" 0) ReflectliteValue.elem #[.agg #[.pointer (some ⟨9, 121, none⟩), .pointer (some a), .int .u64 150]]).run Tryz.prog W
      = .ok (.agg #[.pointer (some ⟨9, 119, none⟩), .pointer (some p), .int .u64 406]) W := by
  rw [as_rlm]
  simp only [Sem.run_bind, as_parts27, Result.andThen]
  simp [ReflectliteValue.elem, loadVar, isAgg, underlying, Tryz.underlying121, ha, Result.andThen, as_elemOf27, as_mk25]
theorem as_rls (v x : Value) : ReflectliteValue.set #[v, x] = (do
    let (some (dst, a, fl), some (src, b, _)) := (← ReflectliteValue.parts v, ← ReflectliteValue.parts x)
      | unsupported (.noEntry "extern/(internal/reflectlite.Value).Set.zeroValue")
    if fl / ReflectliteValue.flagAddr % 2 == 0 then unsupported (.noEntry "extern/(internal/reflectlite.Value).Set.unaddressable")
    let val ← loadVar src b
    if ← Rtype.directlyAssignable dst src then storeVar dst a val
    else if ← Rtype.implements dst src then
      if (← Rtype.kind src) == 20 then
        match val with
        | .nilIface => unsupported (.noEntry "extern/reflectlite: a nil value of one interface type handed on as a value of another")
        | _ => storeVar dst a val
      else storeVar dst a (.iface src val)
    else panicString ("reflectlite.Set: value of type " ++ (← Rtype.spelt src) ++ " is not assignable to type " ++ (← Rtype.spelt dst))
    pure (.tuple #[])) := rfl
theorem as_parts25a (a : Addr) (w : World) : (ReflectliteValue.parts (.agg #[.pointer (some ⟨9, 119, none⟩), .pointer (some a), .int .u64 406])).run Tryz.prog w = .ok (some (119, a, 406)) w := by kernel_rfl
theorem as_parts25 (a : Addr) (w : World) : (ReflectliteValue.parts (.agg #[.pointer (some ⟨9, 119, none⟩), .pointer (some a), .int .u64 150])).run Tryz.prog w = .ok (some (119, a, 150)) w := by kernel_rfl
theorem as_direct25 (w : World) : (Rtype.directlyAssignable 119 119).run Tryz.prog w = .ok true w := by kernel_rfl
theorem as_set25 (ta b e : Addr) (old : Value) (W : World) (hb : W.cell? b = some (.pointer (some e))) (ht : W.cell? ta = some old) (hf : W.frozen? ta = false) :
    (ReflectliteValue.set #[.agg #[.pointer (some ⟨9, 119, none⟩), .pointer (some ta), .int .u64 406], .agg #[.pointer (some ⟨9, 119, none⟩), .pointer (some b), .int .u64 150]]).run Tryz.prog W
      = .ok (.tuple #[]) (W.setCell ta (.pointer (some e))) := by
  rw [as_rls]
  simp only [Sem.run_bind, as_parts25a, as_parts25, Result.andThen]
  simp [ReflectliteValue.flagAddr, loadVar, isAgg, underlying, Tryz.underlying119, hb, Result.andThen, as_direct25, storeVar, Value.cells, storeCells, Addr.add]
  rw [run_store Tryz.prog W ta _ _ (by rfl)]
  simp [ht, hf]
set_option maxHeartbeats 4000000 in
theorem as_hit0 (e t : Addr) (old : Value) (w : World) (hg : w.cell? ⟨2, 0, none⟩ = some (.iface 207 (.agg #[.pointer (some ⟨9, 83, none⟩)]))) (ht0 : w.cell? t = some old) (hf0 : w.frozen? t = false) :
    Calls Tryz.prog 79 #[.iface 119 (.pointer (some e)), .iface 121 (.pointer (some t))] w fun ev w' => ev = .returned (.bool true) ∧ w' = ((((w.alloc (.cells #[.pointer (some t)] 121)).alloc (.cells #[.pointer (some ⟨9, 121, none⟩), .pointer (some ⟨w.heap.size, 0, none⟩), .int .u64 150] 165)).alloc (.cells #[.pointer (some ⟨9, 121, none⟩), .pointer (some ⟨w.heap.size, 0, none⟩), .int .u64 150] 165)).alloc (.cells #[.pointer (some e)] 119)).setCell t (.pointer (some e)) := by
  have h6 := @run_callFunc_extern Tryz.prog 114 _ (fun args => ReflectliteValue.unpack (args.getD 0 (.tuple #[]))) Tryz.func114 (by kernel_rfl) (by kernel_rfl) (by kernel_rfl) (by kernel_rfl)
  have h7 := @run_callFunc_extern Tryz.prog 115 _ (ReflectliteValue.methodAny (ReflectliteValue.valueError "reflectlite.Value.Type" 0) (fun t _ _ _ => ReflectliteType.toType t)) Tryz.func115 (by kernel_rfl) (by kernel_rfl) (by kernel_rfl) (by kernel_rfl)
  have h8 := @run_callFunc_extern Tryz.prog 116 _ (ReflectliteValue.method (ReflectliteValue.valueError "reflectlite.Value.IsNil" 0) ReflectliteValue.isNil) Tryz.func116 (by kernel_rfl) (by kernel_rfl) (by kernel_rfl) (by kernel_rfl)
  have h27 := @run_callFunc_extern Tryz.prog 229 _ (ReflectliteType.abiMethod fun t => do pure (.int .u8 (← Rtype.kind t))) Tryz.func229 (by kernel_rfl) (by kernel_rfl) (by kernel_rfl) (by kernel_rfl)
  have h37 := @run_callFunc_extern Tryz.prog 242 _ (ReflectliteType.method ReflectliteType.elem) Tryz.func242 (by kernel_rfl) (by kernel_rfl) (by kernel_rfl) (by kernel_rfl)
  have h38 := @run_callFunc_extern Tryz.prog 243 _ (ReflectliteType.relation "Implements" ReflectliteType.implements_) Tryz.func243 (by kernel_rfl) (by kernel_rfl) (by kernel_rfl) (by kernel_rfl)
  have h10 := @run_callFunc_extern Tryz.prog 118 _ ReflectliteType.typeOf Tryz.func118 (by kernel_rfl) (by kernel_rfl) (by kernel_rfl) (by kernel_rfl)
  have h35 := @run_callFunc_extern Tryz.prog 240 _ (ReflectliteType.relation "AssignableTo" ReflectliteType.assignableTo) Tryz.func240 (by kernel_rfl) (by kernel_rfl) (by kernel_rfl) (by kernel_rfl)
  have h11 := @run_callFunc_extern Tryz.prog 156 _ (ReflectliteValue.method (ReflectliteValue.valueError "reflectlite.Value.Elem" 0) ReflectliteValue.elem) Tryz.func156 (by kernel_rfl) (by kernel_rfl) (by kernel_rfl) (by kernel_rfl)
  have h12 := @run_callFunc_extern Tryz.prog 157 _ ReflectliteValue.set Tryz.func157 (by kernel_rfl) (by kernel_rfl) (by kernel_rfl) (by kernel_rfl)
  have tO := as_typeOf25
  have mA := as_methodAssignableTo
  have a25 := as_assignable25
  have v25 := as_valueOf25
  have f6 := as_valueOf27
  have f7 := as_type27
  have mK := as_methodKind
  have mE := as_methodElem
  have mI := as_methodImplements
  have k27 := as_kind27
  have k25 := as_kind25
  have e27 := as_elem27
  have i25 := as_implements25
  have n8 := as_isNil27 ⟨w.heap.size, 0, none⟩ t ((w.alloc (.cells #[.pointer (some t)] 121)).alloc (.cells #[.pointer (some ⟨9, 121, none⟩), .pointer (some ⟨w.heap.size, 0, none⟩), .int .u64 150] 165)) (by simp)
  have hlt : 2 < w.heap.size := by
    rcases Nat.lt_or_ge 2 w.heap.size with h | h
    · exact h
    · simp [World.cell?, Array.getElem?_eq_none h] at hg
  have hg2 : ((w.alloc (.cells #[.pointer (some t)] 121)).alloc (.cells #[.pointer (some ⟨9, 121, none⟩), .pointer (some ⟨w.heap.size, 0, none⟩), .int .u64 150] 165)).cell? ⟨2, 0, none⟩ = some (.iface 207 (.agg #[.pointer (some ⟨9, 83, none⟩)])) := by
    rw [World.cell?_alloc_lt _ _ ⟨2, 0, none⟩ (by rw [World.size_alloc]; exact Nat.lt_succ_of_lt hlt), World.cell?_alloc_lt _ _ ⟨2, 0, none⟩ hlt]; exact hg
  have htl : t.block < w.heap.size := by
    rcases Nat.lt_or_ge t.block w.heap.size with h | h
    · exact h
    · simp [World.cell?, Array.getElem?_eq_none h] at ht0
  have el := as_elemV27 ⟨w.heap.size, 0, none⟩ t (((w.alloc (.cells #[.pointer (some t)] 121)).alloc (.cells #[.pointer (some ⟨9, 121, none⟩), .pointer (some ⟨w.heap.size, 0, none⟩), .int .u64 150] 165)).alloc (.cells #[.pointer (some ⟨9, 121, none⟩), .pointer (some ⟨w.heap.size, 0, none⟩), .int .u64 150] 165)) (by rw [World.cell?_alloc_lt _ _ ⟨w.heap.size, 0, none⟩ (by simp; omega)]; simp)
  have st := as_set25 t ⟨w.heap.size + 1 + 1 + 1, 0, none⟩ e old ((((w.alloc (.cells #[.pointer (some t)] 121)).alloc (.cells #[.pointer (some ⟨9, 121, none⟩), .pointer (some ⟨w.heap.size, 0, none⟩), .int .u64 150] 165)).alloc (.cells #[.pointer (some ⟨9, 121, none⟩), .pointer (some ⟨w.heap.size, 0, none⟩), .int .u64 150] 165)).alloc (.cells #[.pointer (some e)] 119))
    (by rw [World.cell?_alloc_at _ _ _ _ (by simp)]; rfl)
    (by rw [World.cell?_alloc_lt _ _ t (by simp; omega), World.cell?_alloc_lt _ _ t (by simp; omega), World.cell?_alloc_lt _ _ t (by simp; omega), World.cell?_alloc_lt _ _ t htl]; exact ht0)
    (by rw [World.frozen?_alloc_old _ _ t (by simp; omega), World.frozen?_alloc_old _ _ t (by simp; omega), World.frozen?_alloc_old _ _ t (by simp; omega), World.frozen?_alloc_old _ _ t (Nat.ne_of_lt htl)]; exact hf0)
  go_enter Tryz.func79, Tryz.ntmps79
  go_wp2
  refine wp_loop_rounds 1 ?_
  rw [rounds_succ]
  go_wp2
  go_ret
  exact ⟨rfl, rfl⟩
def GTyp (w : World) : Prop := w.cell? ⟨2, 0, none⟩ = some (.iface 207 (.agg #[.pointer (some ⟨9, 83, none⟩)]))
theorem GTyp.below {w w' : World} (h : GTyp w) (hb : Below w.heap.size w w') : GTyp w' := pw_cell_below hb h
theorem as_hit (e : Addr) (g : Nat) (old : Value) (w : World) (hG : GTyp w) (ht : w.heap[g]? = some (.cells #[old] 119 (0, 0))) :
    Calls Tryz.prog 79 #[.iface 119 (.pointer (some e)), .iface 121 (.pointer (some ⟨g, 0, none⟩))] w fun ev w' => ev = .returned (.bool true) ∧ KeepP (fun k => k = g) w w' := by
  refine (as_hit0 e ⟨g, 0, none⟩ old w hG ((blk_cell ht 0).trans rfl) (blk_frozen ht 0)).mono ?_
  rintro ev w' ⟨rfl, rfl⟩
  exact ⟨rfl, KeepP.set (ok := fun k => k = g) (p := ⟨g, 0, none⟩) (KeepP.alloc (KeepP.alloc (KeepP.alloc (KeepP.alloc (KeepP.refl w) _) _) _) _) (.inl rfl) _⟩
end Go.Proofs.YtniibpndgcndbaaGreatDoor.Tpl
namespace Go.Proofs.YtniibpndgcndbaaGreatDoor.Tpl
open Go.RowKit Go.Proofs Go.Extern.Stop Go.Stop Go.Extern Go.Proofs.YtniibpndgcndbaaGreatDoor.PB Go.Proofs.YtniibpndgcndbaaGreatDoor.Short Go.Proofs.YtniibpndgcndbaaGreatDoorW.PrintWords Go.Proofs.YtniibpndgcndbaaGreatDoorW.PrintLast Go.Proofs.YtniibpndgcndbaaGreatDoorW.PrintMore
theorem isTypeOf24 (v : Value) (w : World) : (Extern.ReflectliteType.typeOf #[.iface 24 v]).run Tryz.prog w = .ok (.iface 207 (.agg #[.pointer (some ⟨9, 24, none⟩)])) w := by kernel_rfl
theorem isComparable24 (w : World) : (callFunc 241 #[.agg #[.pointer (some ⟨9, 24, none⟩)]]).run Tryz.prog w = .ok (.value (.bool true)) w := by
  have h32 := @run_callFunc_extern Tryz.prog 241 _ (Extern.ReflectliteType.method fun t => do Rtype.noPackHeld "Comparable" t; pure (.bool (← typeInfo t).comparable)) Tryz.func241 (by kernel_rfl) (by kernel_rfl) (by kernel_rfl) (by kernel_rfl)
  have e : ((Extern.ReflectliteType.method fun t => do Rtype.noPackHeld "Comparable" t; pure (.bool (← typeInfo t).comparable)) #[.agg #[.pointer (some ⟨9, 24, none⟩)]]).run Tryz.prog w = .ok (.bool true) w := by kernel_rfl
  rw [h32, e]; rfl
theorem as_is119 (v : Value) (xT : TypeId) (w : World) : (Instr.typeAssert (.iface 119 v) xT 219 true).run Tryz.prog w = .ok (.tuple #[.nilIface, .bool false]) w := run_typeAssert_lacksB Tryz.underlying219 (by kernel_rfl) (by kernel_rfl) v xT w
theorem as_un119 (v : Value) (xT : TypeId) (w : World) : (Instr.typeAssert (.iface 119 v) xT 214 true).run Tryz.prog w = .ok (.tuple #[.iface 119 v, .bool true]) w := run_typeAssert_hasB Tryz.underlying214 (by kernel_rfl) v xT w
theorem as_is24 (v : Value) (xT : TypeId) (w : World) : (Instr.typeAssert (.iface 24 v) xT 219 true).run Tryz.prog w = .ok (.tuple #[.nilIface, .bool false]) w := run_typeAssert_lacksB Tryz.underlying219 (by kernel_rfl) (by kernel_rfl) v xT w
theorem as_un24 (v : Value) (xT : TypeId) (w : World) : (Instr.typeAssert (.iface 24 v) xT 214 true).run Tryz.prog w = .ok (.tuple #[.nilIface, .bool false]) w := run_typeAssert_lacksB Tryz.underlying214 (by kernel_rfl) (by kernel_rfl) v xT w
theorem as_uns24 (v : Value) (xT : TypeId) (w : World) : (Instr.typeAssert (.iface 24 v) xT 216 true).run Tryz.prog w = .ok (.tuple #[.nilIface, .bool false]) w := run_typeAssert_lacksB Tryz.underlying216 (by kernel_rfl) (by kernel_rfl) v xT w
theorem un_method119 (v : Value) (w : World) : (Go.method 395 119 v "Unwrap").run Tryz.prog w = .ok (235, v) w := by kernel_rfl
theorem is_eq119 (v u : Value) (w : World) : (binOp .eql 83 (.iface 119 v) (.iface 24 u)).run Tryz.prog w = .ok (.bool false) w := run_eql_iface_types _ _ _ _ Tryz.underlying83 (by decide) w
theorem is_eq24 (y z : Int) (w : World) : (binOp .eql 83 (.iface 24 (.int .i64 y)) (.iface 24 (.int .i64 z))).run Tryz.prog w = .ok (.bool (y == z)) w := Lib.run_eql_iface_int w y z Tryz.underlying83 (by kernel_rfl) Tryz.underlying24
abbrev stopV (b : Nat) : Value := .iface 119 (.pointer (some ⟨b, 0, none⟩))
set_option maxRecDepth 100000 in
set_option maxHeartbeats 1000000 in
theorem is_stop (b : Nat) (y z : Int) (w : World) (hb : w.heap[b]? = some (stopO y)) :
    Calls Tryz.prog 80 #[stopV b, .iface 24 (.int .i64 z)] w fun e w' => e = .returned (.bool (y == z)) ∧ w' = w := by
  unfold stopV
  have h8 := @run_callFunc_extern Tryz.prog 118 _ Extern.ReflectliteType.typeOf Tryz.func118 (by kernel_rfl) (by kernel_rfl) (by kernel_rfl) (by kernel_rfl)
  have tT := isTypeOf24
  have cT := isComparable24
  have mR := isMethodComparable
  have a1 := as_is119
  have a2 := as_un119
  have a3 := as_is24
  have a4 := as_un24
  have a5 := as_uns24
  have a6 := un_method119
  have a7 := is_eq119
  have a8 := is_eq24
  have y0 : w.cell? ⟨b, 0, none⟩ = some (.int .i64 y) := (blk_cell hb 0).trans rfl
  go_enter Tryz.func80, Tryz.ntmps80
  go_wp2
  refine wp_loop_rounds 2 ?_
  rw [rounds_succ]
  go_wp2
  cases hyz : y == z
  all_goals
    have e0 := hyz
    rw [rounds_succ]
    go_wp2
    go_ret
    exact ⟨by rw [e0]; rfl, rfl⟩
def GRea (w : World) : Prop := w.cell? ⟨0, 0, none⟩ = some (.int .i64 3) ∧ w.cell? ⟨0, 1, none⟩ = some (.int .i64 7) ∧ w.cell? ⟨0, 2, none⟩ = some (.int .i64 12)
theorem GRea.below {w w' : World} (h : GRea w) (hb : Below w.heap.size w w') : GRea w' := ⟨pw_cell_below hb h.1, pw_cell_below hb h.2.1, pw_cell_below hb h.2.2⟩
set_option maxRecDepth 100000 in
theorem reason_nil (w : World) : Calls Tryz.prog 55 #[.nilIface] w fun e w' => e = .returned (.int .i64 0) ∧ Below w.heap.size w w' := by
  have hn := fun t w => as_nil t w
  go_enter Tryz.func55, Tryz.ntmps55
  go_wp2_with fail
  refine (hn _ _).mono ?_
  rintro e w1 ⟨rfl, rfl⟩
  go_wp2
  go_ret
  exact ⟨rfl, below_alloc (Below.refl _ _) _⟩
theorem rea_ix0 (w : World) : (Instr.index 122 (.agg #[.int .i64 3, .int .i64 7, .int .i64 12]) (.int .i64 0)).run Tryz.prog w = .ok (.int .i64 3) w := by kernel_rfl
theorem rea_ix1 (w : World) : (Instr.index 122 (.agg #[.int .i64 3, .int .i64 7, .int .i64 12]) (.int .i64 1)).run Tryz.prog w = .ok (.int .i64 7) w := by kernel_rfl
theorem rea_ix2 (w : World) : (Instr.index 122 (.agg #[.int .i64 3, .int .i64 7, .int .i64 12]) (.int .i64 2)).run Tryz.prog w = .ok (.int .i64 12) w := by kernel_rfl
set_option maxRecDepth 100000 in
set_option maxHeartbeats 1000000 in
theorem reason_stop (b : Nat) (k : Int) (w : World) (hT : GTyp w) (hR : GRea w) (hb : w.heap[b]? = some (stopO k)) (hk : k = 12 ∨ k = 3 ∨ k = 2 ∨ k = 7) : Calls Tryz.prog 55 #[stopV b] w fun e w' => e = .returned (.int .i64 k) ∧ Below w.heap.size w w' := by
  have hb1 := below_alloc (Below.refl w.heap.size w) (.cells #[.pointer none] 119)
  have has := as_hit ⟨b, 0, none⟩ w.heap.size (.pointer none) (w.alloc (.cells #[.pointer none] 119)) (hT.below hb1) (blk_new w _)
  have i0 := rea_ix0
  have i1 := rea_ix1
  have i2 := rea_ix2
  have HB := Aside0.mk hb
  have HR := Aside0.mk hR
  have HB1 := Aside0.mk hb1
  clear hT hR hb hb1
  go_enter Tryz.func55, Tryz.ntmps55
  go_wp2_with fail
  refine has.mono ?_
  rintro e w1 ⟨rfl, hkp⟩
  have hbl : Below w.heap.size w w1 := HB1.out.trans (hkp.below (B := w.heap.size) (fun _ h => Nat.le_of_eq h.symm) (by rw [World.size_alloc]; exact Nat.le_succ _))
  have hIs := fun z => is_stop b k z w1 (blk_below HB.out hbl)
  obtain ⟨r0, r1, r2⟩ := HR.out.below hbl
  have HBL := Aside0.mk hbl
  clear has hkp hbl
  rcases hk with rfl | rfl | rfl | rfl
  all_goals
    go_wp2
    refine wp_loop_rounds 4 ?_
    repeat (rw [rounds_succ]; go_wp2_with (go_at_call 80; refine (hIs _).mono ?_; rintro e w' ⟨rfl, rfl⟩))
    go_ret
    exact ⟨rfl, HBL.out⟩
end Go.Proofs.YtniibpndgcndbaaGreatDoor.Tpl
namespace Go.Proofs.YtniibpndgcndbaaGreatDoor.Tpl
open Go.RowKit Go.Proofs Go.Proofs.YtniibpndgcndbaaGreatDoor.PB Go.Proofs.YtniibpndgcndbaaGreatDoor.Short Go.Proofs.YtniibpndgcndbaaGreatDoorW.PrintWords Go.Proofs.YtniibpndgcndbaaGreatDoorW.PrintLast Go.Proofs.YtniibpndgcndbaaGreatDoorW.PrintMore
abbrev escT (n : Nat) : S → S := Esc.toL (n : Int)
def TextRet (o : Except Int S) (w : World) (e : Ending) (w' : World) : Prop :=
  Below w.heap.size w w' ∧ match o with
  | .ok s => e = .returned (.tuple #[.string (bs s), .int .i64 0])
  | .error k => e = .returned (.tuple #[.string ⟨#[]⟩, .int .i64 k])
structure GlobR (w : World) : Prop where
  glob : Glob w
  tab : GTab w
  typ : GTyp w
  rea : GRea w
theorem GlobR.below {w w' : World} (h : GlobR w) (hb : Below w.heap.size w w') : GlobR w' := ⟨h.glob.below hb, h.tab.below hb, h.typ.below hb, h.rea.below hb⟩
theorem FillP_no {T : Nat → S → S} {l : Nodes} {v : Val} {c : Nat} (h : ¬ (l.chk = true ∧ v.ok = true)) : FillP T l v c = .error 2 := by unfold FillP; rw [if_neg h]
theorem emost_any (c : Nat) (w : World) : Calls Tryz.prog 35 #[.int .u8 c] w fun e w' => e = .returned (.tuple #[.int .i64 (if 1 ≤ c ∧ c ≤ 3 then mostC c else 0), .int .i64 (if 1 ≤ c ∧ c ≤ 3 then 0 else 1)]) ∧ Below w.heap.size w w' := by
  have h : esc_Most.f (c : Int) = some ((if 1 ≤ c ∧ c ≤ 3 then mostC c else 0), (if 1 ≤ c ∧ c ≤ 3 then 0 else 1)) := by
    unfold esc_Most.f mostC
    by_cases h1 : c = 1
    · subst h1; rfl
    by_cases h2 : c = 2
    · subst h2; rfl
    by_cases h3 : c = 3
    · subst h3; rfl
    rw [if_neg (by omega), if_neg (by omega), if_neg (by omega), if_neg (by omega), if_neg (by omega)]
  exact (esc_Most.calls _ _ _ w h).mono (fun e w' h => ⟨h.1, by have := h.2; exact this.below⟩)
abbrev penO (c : Nat) (most : Int) : Obj := .cells #[.pointer none, .slice none 0 0, .int .u8 c, .int .i64 most, .int .i64 4096] 80 (0, 0)
theorem pen_new {w0 w : World} {c : Nat} {most : Int} {g : Nat} (hg : w0.heap.size ≤ g) (hk : w.heap[g]? = some (penO c most)) : PenAt w w0.heap.size g [] c most 4096 ∧ bufOf w g = none := by
  refine ⟨⟨hg, _, _, .inl rfl, hk, ⟨rfl, .inl ⟨rfl, rfl⟩⟩, fun _ => rfl⟩, ?_⟩
  unfold bufOf
  rw [(blk_cell hk 1).trans rfl]
  rfl
set_option maxHeartbeats 2000000 in
set_option maxRecDepth 100000 in
theorem fill_any (l : Nodes) (A : Option Addr) (c0 : Nat) (v : Val) (A3 : Option Addr) (c3 : Nat) (A4 : Option Addr) (c4 : Nat) (c : Nat) (w : World) (hG : GlobR w) (hs : l.sm) (hl : l.len ≤ 1048576) (hn : l.cnt ≤ 1048576) (hN : Nodes.Rd w A c0 l) (hv : v.fit) (hV : RdV w v A3 c3 A4 c4) :
    Calls Tryz.prog 26 #[.slice A l.len c0, vAgg v A3 c3 A4 c4, .int .u8 c] w (TextRet (FillP escT l v c) w) := by
  obtain ⟨o, ho⟩ : ∃ o, FillP escT l v c = o := ⟨_, rfl⟩
  rw [ho]
  have HO := Aside0.mk ho
  have hb1 := below_alloc (Below.refl w.heap.size w) (vObj v.k v.t v.n v.i v.m A3 c3 A4 c4)
  have BK1 := blk_new w (vObj v.k v.t v.n v.i v.m A3 c3 A4 c4)
  have HG := Aside0.mk hG
  have HN := Aside0.mk (hN.below hb1)
  have HV := Aside0.mk (hV.below hb1)
  have HF := Aside0.mk hv
  have HB1 := Aside0.mk hb1
  have HS := Aside0.mk hs
  have HNF := Aside0.mk (hN.fd)
  have HVF := Aside0.mk (RV.of_rd hV)
  clear ho hG hN hV hv hb1
  go_enter Tryz.func26, Tryz.ntmps26
  go_upto_region 1 with (fail)
  generalize w.alloc (vObj v.k v.t v.n v.i v.m A3 c3 A4 c4) = W at BK1 HN HV HB1 ⊢
  obtain ⟨b1, hb1⟩ : ∃ b, w.heap.size = b := ⟨_, rfl⟩
  have Hb1 := Aside0.mk hb1
  rw [hb1] at BK1 ⊢
  clear hb1
  obtain ⟨y0, y1, y2, y3, y4, -⟩ := cells_5 BK1
  have HK1 := Aside0.mk BK1
  clear BK1
  have hck := chk_any l A c0 W (HG.out.glob.below HB1.out) HS.out HN.out hl hn
  cases hlc : l.chk with
  | false =>
    rw [hlc] at hck
    have ho : Except.error 2 = o := by rw [← HO.out]; exact (FillP_no (by rw [hlc]; simp)).symm
    subst ho
    go_wp2_with fail
    refine hck.mono ?_
    rintro e w2 ⟨rfl, hb⟩
    have HB := Aside0.mk hb
    clear hck hb
    go_wp2
    go_ret2
    exact ⟨below_step HB1.out HB.out, rfl⟩
  | true =>
    rw [hlc] at hck
    go_wp2_with fail
    refine hck.mono ?_
    rintro e w2 ⟨rfl, hb⟩
    have HB := Aside0.mk hb
    have hvk := vchk_any v.k v.t v.n v.i v.m A3 c3 A4 c4 w2 HF.out.1 (HV.out.below hb).1 (HV.out.below hb).2 HF.out.2
    have z0 := pw_cell_below hb y0
    have z1 := pw_cell_below hb y1
    have z2 := pw_cell_below hb y2
    have z3 := pw_cell_below hb y3
    have z4 := pw_cell_below hb y4
    have HK2 := Aside0.mk (blk_below HK1.out hb)
    clear hck hb y0 y1 y2 y3 y4 HK1
    cases hvc : chkV v.k v.t v.n v.i v.m with
    | false =>
      rw [hvc] at hvk
      have ho : Except.error 2 = o := by rw [← HO.out]; exact (FillP_no (fun h => by have h2 : chkV v.k v.t v.n v.i v.m = true := h.2; rw [hvc] at h2; cases h2)).symm
      subst ho
      go_wp2_with fail
      refine hvk.mono ?_
      rintro e w3 ⟨rfl, hb⟩
      have HB2 := Aside0.mk hb
      clear hvk hb
      go_wp2
      go_ret2
      exact ⟨below_step HB1.out (below_step HB.out HB2.out), rfl⟩
    | true =>
      rw [hvc] at hvk
      go_wp2_with fail
      refine hvk.mono ?_
      rintro e w3 ⟨rfl, hb⟩
      have HB3 := Aside0.mk (below_step HB1.out (below_step HB.out hb))
      have K3 := blk_below HK2.out hb
      clear hvk hb z0 z1 z2 z3 z4 HK2 HB HB1
      have hmo := emost_any c w3
      have HO2 : Aside0 ((if 1 ≤ c ∧ c ≤ 3 then (match fillP (ownT c) (Esc.toL c) (mostC c) l [v] ([], 4096) with | .ok q => .ok q.1 | .error e => .error e) else .error 1) = o) := ⟨by have h := HO.out; unfold FillP at h; rw [if_pos ⟨hlc, hvc⟩] at h; exact h⟩
      clear hlc hvc HO
      by_cases hc : 1 ≤ c ∧ c ≤ 3
      · rw [if_pos hc, if_pos hc] at hmo
        have ho2 : (match fillP (ownT c) (Esc.toL c) (mostC c) l [v] ([], 4096) with | .ok q => Except.ok q.1 | .error e => .error e) = o := by rw [← HO2.out, if_pos hc]
        have HO3 := Aside0.mk ho2
        have hm : mostC c ≤ 1048576 ∧ 0 ≤ mostC c := by unfold mostC; split; decide; split <;> decide
        clear HO2 ho2
        go_wp2_with fail
        refine hmo.mono ?_
        rintro e w4 ⟨rfl, hb⟩
        have HB4 := Aside0.mk (below_step HB3.out hb)
        have K4 := blk_below K3 hb
        clear hmo hb K3
        generalize mostC c = most at HO3 hm ⊢
        go_upto_region 7 with (fail)
        have hbp := below_alloc (Below.refl w4.heap.size w4) (penO c most)
        have KP := blk_new w4 (penO c most)
        have K5 := blk_below K4 hbp
        have HB5 := Aside0.mk (below_step HB4.out hbp)
        have hgp : w.heap.size ≤ w4.heap.size := HB4.out.size
        clear hbp K4
        generalize w4.alloc (penO c most) = W5 at KP K5 HB5 ⊢
        obtain ⟨g, hg⟩ : ∃ g, w4.heap.size = g := ⟨_, rfl⟩
        rw [hg] at KP hgp ⊢
        clear hg
        obtain ⟨y0, y1, y2, y3, y4, -⟩ := cells_5 K5
        have hbr := below_alloc (Below.refl W5.heap.size W5) (rObj v A3 c3 A4 c4 none)
        have KR := blk_new W5 (rObj v A3 c3 A4 c4 none)
        have hB6 := below_step HB5.out hbr
        obtain ⟨hpen, hbuf⟩ := pen_new (w0 := w) hgp (blk_below KP hbr)
        have hoff : ∀ k, k < w.heap.size → Off (W5.alloc (rObj v A3 c3 A4 c4 none)) g k := fun k hk => ⟨by omega, by rw [hbuf]; simp⟩
        have hoffr : Off (W5.alloc (rObj v A3 c3 A4 c4 none)) g W5.heap.size := ⟨by have := blk_lt KP; omega, by rw [hbuf]; simp⟩
        have hin : PenIn w g c most [v] (some ⟨W5.heap.size, 0, none⟩) ([], 4096) (W5.alloc (rObj v A3 c3 A4 c4 none)) :=
          ⟨hpen, hB6, ⟨_, A3, c3, A4, c4, none, rfl, hoffr, KR, (HVF.out.below hB6).mono hoff, rfl⟩, ⟨by simpa using hm.2, by simp, by simp⟩⟩
        have hcall := pfill_any w g c most HG.out.tab hc hm.1 l HS.out hl [v] (some ⟨W5.heap.size, 0, none⟩) A c0 ([], 4096) _ hin (by simp) (fun x hx => by simp at hx; exact hx ▸ HF.out) (FdN.mono ⟨Kd.F_below HNF.out.1 hB6, HNF.out.2⟩ hoff)
        have HIN := Aside0.mk hin
        clear hoff hoffr hpen hbuf hin KR KP hbr hB6 K5
        go_wp2_with fail
        with_reducible refine hcall.mono ?_
        rintro e w6 hret
        have HB6 : Aside0 (Below w.heap.size w w6) := ⟨HIN.out.bel.trans (hret.1.belowP HIN.out.pen HIN.out.bel.size)⟩
        clear hcall
        cases hf : fillP (ownT c) (Esc.toL c) most l [v] ([], 4096) with
        | error k =>
          have ho : Except.error k = o := by rw [← HO3.out, hf]
          subst ho
          rw [hf] at hret
          obtain ⟨_, bk, rfl, hk⟩ := hret
          have hke := fillP_err l _ _ _ hf
          have hrs := reason_stop bk k w6 (HG.out.typ.below HB6.out) (HG.out.rea.below HB6.out) hk hke
          have ek : (k == 0) = false := by rw [beq_eq_false_iff_ne]; omega
          clear hf hk hke
          go_wp2_with fail
          refine hrs.mono ?_
          rintro e w7 ⟨rfl, hb⟩
          have HB7 := Aside0.mk (below_step HB6.out hb)
          clear hrs hb
          go_wp2
          go_ret2
          exact ⟨HB7.out, rfl⟩
        | ok q =>
          have ho : Except.ok q.1 = o := by rw [← HO3.out, hf]
          subst ho
          rw [hf] at hret
          obtain ⟨_, rfl, hpen⟩ := hret
          have HP := Aside0.mk hpen
          have hrs := reason_nil w6
          clear hf hpen
          go_wp2_with fail
          refine hrs.mono ?_
          rintro e w7 ⟨rfl, hb⟩
          have HB7 := Aside0.mk (below_step HB6.out hb)
          have hst := pstring_any g w.heap.size q.1 c most q.2 w7 (HP.out.below hb) HB7.out.size
          clear hrs hb
          go_wp2_with fail
          refine hst.mono ?_
          rintro e w8 ⟨rfl, hb⟩
          have HB8 := Aside0.mk (HB7.out.trans hb)
          clear hst hb
          go_wp2
          go_ret2
          exact ⟨HB8.out, rfl⟩
      · rw [if_neg hc, if_neg hc] at hmo
        have ho : Except.error 1 = o := by rw [← HO2.out, if_neg hc]
        subst ho
        clear hc
        go_wp2_with fail
        refine hmo.mono ?_
        rintro e w4 ⟨rfl, hb⟩
        have HB4 := Aside0.mk hb
        clear hmo hb
        go_wp2
        go_ret2
        exact ⟨below_step HB3.out HB4.out, rfl⟩
end Go.Proofs.YtniibpndgcndbaaGreatDoor.Tpl
namespace Go.Proofs.YtniibpndgcndbaaGreatDoor.Tpl
open Go.RowKit Go.Proofs Go.Proofs.YtniibpndgcndbaaGreatDoor.PB Go.Proofs.YtniibpndgcndbaaGreatDoor.Short Go.Proofs.YtniibpndgcndbaaGreatDoorW.PrintWords Go.Proofs.YtniibpndgcndbaaGreatDoorW.PrintLast Go.Proofs.YtniibpndgcndbaaGreatDoorW.PrintMore
def Vals.list : Vals → List Val
  | .nil => []
  | .cons k t n i m r => ⟨k, t, n, i, m⟩ :: r.list
def MeansP (path : List S) (v : Val) (l : Vals) : Except Int Val := if (v.ok && l.list.all Val.ok) = true then meansP path (l.list.reverse ++ [v]) else .error 2
theorem Vals.list_fit (l : Vals) : l.sm → l.cnt ≤ 1048576 → ∀ x, x ∈ l.list → x.fit := by
  induction l with
  | nil => intro _ _ x hx; simp [Vals.list] at hx
  | cons k t n i m r _ ih =>
    intro hs hc x hx
    obtain ⟨a1, a2, a3, a4, a5, a6, a7, a8⟩ := hs
    simp only [Vals.cnt] at hc
    rcases List.mem_cons.1 hx with h | h
    · subst h; exact ⟨⟨a1, a2, a3, a4, a5, a6, a7, trivial⟩, by show i.cnt ≤ 1048576; omega⟩
    · exact ih a8 (by omega) x h
set_option maxHeartbeats 2000000 in
set_option maxRecDepth 100000 in
theorem means_any (path : List S) (Ap : Option Addr) (cp : Nat) (v : Val) (A3 : Option Addr) (c3 : Nat) (A4 : Option Addr) (c4 : Nat) (l : Vals) (Ai : Option Addr) (ci : Nat) (w : World)
    (hP : RdS w Ap cp path) (hp : path.length ≤ 1048576) (hv : v.fit) (hV : RdV w v A3 c3 A4 c4) (hs : l.sm) (hl : l.len ≤ 1048576) (hc : l.cnt ≤ 1048576) (hL : Vals.Rd w Ai ci l) :
    Calls Tryz.prog 31 #[.slice Ap path.length cp, vAgg v A3 c3 A4 c4, .slice Ai l.len ci] w (FindRet (MeansP path v l) (fun _ => True) w) := by
  obtain ⟨o, ho⟩ : ∃ o, MeansP path v l = o := ⟨_, rfl⟩
  rw [ho]
  have HO := Aside0.mk ho
  have HV := Aside0.mk hV
  have HP := Aside0.mk hP
  have HL := Aside0.mk (Rd.fd hL)
  have HF := Aside0.mk hv
  have HS := Aside0.mk hs
  have hb1 := below_alloc (below_alloc (Below.refl w.heap.size w) (vObj v.k v.t v.n v.i v.m A3 c3 A4 c4)) zBox
  have BK1 := blk_alloc (blk_new w (vObj v.k v.t v.n v.i v.m A3 c3 A4 c4)) zBox
  have BK2 := blk_new (w.alloc (vObj v.k v.t v.n v.i v.m A3 c3 A4 c4)) zBox
  rw [World.size_alloc] at BK2
  have HB1 := Aside0.mk hb1
  clear ho hP hv hV hs hL hb1
  go_enter Tryz.func31, Tryz.ntmps31
  go_upto_region 1 with (fail)
  generalize (w.alloc (vObj v.k v.t v.n v.i v.m A3 c3 A4 c4)).alloc zBox = W at BK1 BK2 HB1 ⊢
  obtain ⟨b1, hb1⟩ : ∃ b, w.heap.size = b := ⟨_, rfl⟩
  have Hb1 := Aside0.mk hb1
  rw [hb1] at BK1 BK2 ⊢
  clear hb1
  obtain ⟨y0, y1, y2, y3, y4, -⟩ := cells_5 BK1
  have HK1 := Aside0.mk BK1
  have HK2 := Aside0.mk BK2
  clear BK1 BK2
  go_upto_region 2 with (fail)
  have hb2 := below_alloc (Below.refl W.heap.size W) (rObj v A3 c3 A4 c4 none)
  have KR := blk_new W (rObj v A3 c3 A4 c4 none)
  obtain ⟨y0, y1, y2, y3, y4, -⟩ := cells_5 (blk_below HK1.out hb2)
  have HB2 := Aside0.mk (below_step HB1.out hb2)
  have K2 := blk_below HK2.out hb2
  clear hb2 HK1 HB1
  obtain ⟨br, hbr⟩ : ∃ b, W.heap.size = b := ⟨_, rfl⟩
  have Hbr : Aside0 (br ≠ b1 + 1) := ⟨by have := blk_lt HK2.out; omega⟩
  generalize W.alloc (rObj v A3 c3 A4 c4 none) = W2 at KR y0 y1 y2 y3 y4 HB2 K2 ⊢
  rw [hbr] at KR ⊢
  clear hbr HK2
  have hck := vchk_any v.k v.t v.n v.i v.m A3 c3 A4 c4 W2 HF.out.1 (HV.out.below HB2.out).1 (HV.out.below HB2.out).2 HF.out.2
  go_wp2_with fail
  refine hck.mono ?_
  rintro e w3 ⟨rfl, hb⟩
  have HB3 := Aside0.mk (below_step HB2.out hb)
  have HR3 : Aside0 (Rounds w3 (fun q => q ≠ b1 + 1) (some ⟨br, 0, none⟩) [v]) := ⟨⟨br, A3, c3, A4, c4, none, rfl, Hbr.out, blk_below KR hb, ((RV.of_rd HV.out).below HB3.out).mono (fun q hq => by have := Hb1.out; omega), rfl⟩⟩
  have HK3 := Aside0.mk (blk_below K2 hb)
  clear hck hb KR K2 HB2 y0 y1 y2 y3 y4
  have hvk : chkV v.k v.t v.n v.i v.m = v.ok := rfl
  rw [hvk]
  clear hvk
  obtain ⟨yy, hy⟩ : ∃ y : Int, (if v.ok = true then 0 else 2) = y := ⟨_, rfl⟩
  rw [hy]
  obtain ⟨gd, hgd⟩ : ∃ b, (v.ok && l.list.all Val.ok) = b := ⟨_, rfl⟩
  have HY : Aside0 ((yy = 0 ∨ yy = 2) ∧ (yy == 0 && (l.drop 0).list.all Val.ok) = gd) := ⟨by rw [Vals.drop_zero, ← hgd, ← hy]; cases v.ok <;> simp⟩
  have HGD := Aside0.mk hgd
  clear hy hgd
  go_wp2
  go_loopw [8, 9, 20] (fun s8 s9 s20 wr => ∃ (j : Nat) (rd : List Val) (ar : Option Addr) (y : Int), s8 = .pointer ar ∧ s9 = .int .i64 y ∧ s20 = .int .i64 j ∧ j ≤ l.len ∧ Aside0 ((y = 0 ∨ y = 2) ∧ (y == 0 && (l.drop j).list.all Val.ok) = gd) ∧ Aside0 ((l.drop j).list.reverse ++ rd = l.list.reverse ++ [v]) ∧ Aside0 (Rounds wr (fun q => q ≠ b1 + 1) ar rd) ∧ Aside0 (Below w.heap.size w wr) ∧ Aside0 (wr.heap[b1 + 1]? = some zObj)) (fun _ _ v _ => l.len - (intOf v).toNat)
  case atStart => exact ⟨0, [v], _, yy, rfl, rfl, rfl, Nat.zero_le _, HY, ⟨by rw [Vals.drop_zero]⟩, HR3, HB3, HK3⟩
  case round =>
    clear HY HR3 HB3 HK3
    obtain ⟨j, rd, ar, y, rfl, rfl, rfl, hj, HY, HRD, HR, HB, HK⟩ := hrel
    cases hd : l.drop j with
    | nil =>
      have h1 := Vals.drop_nil hd
      obtain rfl : j = l.len := by omega
      have hrd := HRD.out
      rw [hd] at hrd
      have hrd : rd = l.list.reverse ++ [v] := hrd
      subst hrd
      have hyy := HY.out
      rw [hd] at hyy
      simp only [Vals.list, List.all_nil, Bool.and_true] at hyy
      obtain ⟨hy1, hy2⟩ := hyy
      clear hd
      have hle1 : w.heap.size ≤ b1 + 1 := by have := Hb1.out; omega
      obtain ⟨z0, z1, z2, z3, z4, f0, f1, f2, f3, f4⟩ := cells_5 HK.out
      rcases hy1 with rfl | rfl
      · have hgd : gd = true := by rw [← hy2]; rfl
        have HO2 : Aside0 (meansP path (l.list.reverse ++ [v]) = o) := ⟨by rw [← HO.out]; unfold MeansP; rw [HGD.out, if_pos hgd]⟩
        have hfind := rfind_any ar (l.list.reverse ++ [v]) (fun q => q ≠ b1 + 1) Ap cp path wr (by simp) HR.out (fun x hx => by
          rcases List.mem_append.1 hx with h | h
          · exact Vals.list_fit l HS.out hc x (List.mem_reverse.1 h)
          · rw [List.mem_singleton.1 h]; exact HF.out) (RdS.below HP.out HB.out) hp
        clear hy2 hgd
        go_wp2_with fail
        refine hfind.mono ?_
        rintro e w4 hret
        obtain ⟨hb4, x, kk, E3, f3', E4, f4', rfl, hres⟩ := hret.uni
        have K4 := blk_below HK.out hb4
        have hlt : b1 + 1 < wr.heap.size := blk_lt HK.out
        have HB4 := Aside0.mk (below_step HB.out hb4)
        have HRes := Aside0.mk hres
        clear z0 z1 z2 z3 z4 f0 f1 f2 f3 f4 hfind hret hb4 hres
        obtain ⟨z0, z1, z2, z3, z4, f0, f1, f2, f3, f4⟩ := cells_5 K4
        go_wp2
        refine bodyPost_ret (results_ct rfl _ _ (b1 + 1) 43 #[.int .u8 x.k, .string (bs x.t), .int .i64 x.n, .slice E3 x.i.len f3', .slice E4 x.m.length f4'] (0, 0) _ rfl (put5_blk K4) Tryz.underlying43 rfl (by kernel_rfl)) rfl ?_
        refine ResV.ret (ok := fun q => q ≠ b1 + 1 ∨ wr.heap.size ≤ q) (ResV.step (HO2.out ▸ HRes.out) (fun q hq _ => put5_far (fun e => ?_))) (put5_below HB4.out hle1) (fun q hq => .inl trivial)
        rcases hq with hq | hq
        · exact hq e
        · omega
      · have hgd : gd = false := by rw [← hy2]; rfl
        have ho : Except.error 2 = o := by rw [← HO.out]; unfold MeansP; rw [HGD.out, if_neg (by rw [hgd]; decide)]
        subst ho
        clear hy2 hgd
        have hlt : b1 + 1 < wr.heap.size := blk_lt HK.out
        go_wp2
        refine bodyPost_ret (results_ct rfl _ _ (b1 + 1) 43 #[.int .u8 0, .string ⟨#[]⟩, .int .i64 0, .slice none 0 0, .slice none 0 0] (0, 0) _ rfl (put5_blk HK.out) Tryz.underlying43 rfl (by kernel_rfl)) rfl ?_
        exact ⟨put5_below HB.out hle1, rfl⟩
    | cons k' t' n' i' m' r' =>
      obtain ⟨ad, A3', c3', A4', c4', rfl, y0, y1, y2, y3, y4, hF3, hF4⟩ := (HL.out.below HB.out).at hd
      obtain ⟨h1, h2, _⟩ := Vals.drop_step hd
      have hfx : (⟨k', t', n', i', m'⟩ : Val).fit := Vals.list_fit l HS.out hc _ (by
        have hmem : ∀ (l : Vals) (j : Nat) {k t n i m r}, l.drop j = .cons k t n i m r → (⟨k, t, n, i, m⟩ : Val) ∈ l.list := by
          intro l
          induction l with
          | nil => intro j k t n i m r h; cases j <;> simp [Vals.drop] at h
          | cons k t n i m r _ ih =>
            intro j k t n i m r h
            cases j with
            | zero => simp only [Vals.drop, Vals.cons.injEq] at h; obtain ⟨rfl, rfl, rfl, rfl, rfl, rfl⟩ := h; exact List.mem_cons_self
            | succ j => exact List.mem_cons_of_mem _ (ih j h)
        exact hmem l j hd)
      have hbn := below_alloc (Below.refl wr.heap.size wr) (vBox k' t' n' A3' i'.len c3' A4' m'.length c4')
      have BKn := blk_new wr (vBox k' t' n' A3' i'.len c3' A4' m'.length c4')
      have HBn := Aside0.mk (below_step HB.out hbn)
      have HRn := Aside0.mk (HR.out.below hbn)
      have HKn := Aside0.mk (blk_below HK.out hbn)
      have hRV : RV wr (fun q => q < w.heap.size) ⟨k', t', n', i', m'⟩ A3' c3' A4' c4' := ⟨hF3, hF4⟩
      have HVn := Aside0.mk (hRV.below hbn)
      have HD := Aside0.mk hd
      have H2 := Aside0.mk h2
      have HFx := Aside0.mk hfx
      clear hd h2 hF3 hF4 hbn hRV hfx
      go_upto_region 6 with (fail)
      clear y0 y1 y2 y3 y4
      generalize wr.alloc (vBox k' t' n' A3' i'.len c3' A4' m'.length c4') = W1 at BKn HBn HRn HKn HVn ⊢
      generalize wr.heap.size = gx at BKn ⊢
      obtain ⟨y0, y1, y2, y3, y4, -⟩ := cells_5 BKn
      have hck := vchk_any k' t' n' i' m' A3' c3' A4' c4' W1 HFx.out.1 HVn.out.rd.1 HVn.out.rd.2 HFx.out.2
      go_wp2_with fail
      with_reducible refine hck.mono ?_
      rintro e w4 ⟨rfl, hb⟩
      have K4 := blk_below BKn hb
      have HB4 := Aside0.mk (below_step HBn.out hb)
      have HR4 := Aside0.mk (HRn.out.below hb)
      have HK4 := Aside0.mk (blk_below HKn.out hb)
      have HV4 := Aside0.mk (HVn.out.below hb)
      clear BKn y0 y1 y2 y3 y4 hck hb HBn HRn HKn HVn HB HR HK
      obtain ⟨y0, y1, y2, y3, y4, -⟩ := cells_5 K4
      clear K4
      have hbr := below_alloc (Below.refl w4.heap.size w4) (rObj ⟨k', t', n', i', m'⟩ A3' c3' A4' c4' ar)
      have HE1 : Aside0 (Rounds (w4.alloc (rObj ⟨k', t', n', i', m'⟩ A3' c3' A4' c4' ar)) (fun q => q ≠ b1 + 1) (some ⟨w4.heap.size, 0, none⟩) (⟨k', t', n', i', m'⟩ :: rd)) := ⟨⟨_, A3', c3', A4', c4', ar, rfl, by have := blk_lt HK4.out; omega, blk_new _ _, (HV4.out.below hbr).mono (fun q hq => by have := Hb1.out; omega), HR4.out.below hbr⟩⟩
      have HE2 := Aside0.mk (below_step HB4.out hbr)
      have HE3 := Aside0.mk (blk_below HK4.out hbr)
      have HE4 : Aside0 ((l.drop (j + 1)).list.reverse ++ (⟨k', t', n', i', m'⟩ :: rd) = l.list.reverse ++ [v]) := ⟨by rw [← HRD.out, HD.out, H2.out]; simp [Vals.list]⟩
      have HY2 : Aside0 ((y == 0 && (chkV k' t' n' i' m' && (l.drop (j + 1)).list.all Val.ok)) = gd) := ⟨by rw [← HY.out.2, HD.out, H2.out]; rfl⟩
      have hy1 := HY.out.1
      cases hok : chkV k' t' n' i' m' with
      | true =>
        have HY3 : Aside0 ((y = 0 ∨ y = 2) ∧ (y == 0 && (l.drop (j + 1)).list.all Val.ok) = gd) := ⟨hy1, by rw [← HY2.out, hok]; rfl⟩
        clear hok hy1
        go_wp2_with fail
        go_roundw
        case rel => exact ⟨j + 1, ⟨k', t', n', i', m'⟩ :: rd, _, y, rfl, rfl, by simp, by omega, HY3, HE4, HE1, HE2, HE3⟩
        case measure => simp [intOf]; omega
      | false =>
        have HY3 : Aside0 (((2 : Int) = 0 ∨ (2 : Int) = 2) ∧ ((2 : Int) == 0 && (l.drop (j + 1)).list.all Val.ok) = gd) := ⟨.inr rfl, by rw [← HY2.out, hok]; simp⟩
        clear hok hy1
        go_wp2_with fail
        go_roundw
        case rel => exact ⟨j + 1, ⟨k', t', n', i', m'⟩ :: rd, _, 2, rfl, rfl, by simp, by omega, ⟨⟨.inr rfl, HY3.out.2⟩⟩, HE4, HE1, HE2, HE3⟩
        case measure => simp [intOf]; omega
end Go.Proofs.YtniibpndgcndbaaGreatDoor.Tpl
namespace Go.Proofs.YtniibpndgcndbaaGreatDoor.Tpl
open Go.RowKit Go.Proofs Go.Proofs.YtniibpndgcndbaaGreatDoor.PB Go.Proofs.YtniibpndgcndbaaGreatDoor.Short Go.Proofs.YtniibpndgcndbaaGreatDoorW.PrintWords Go.Proofs.YtniibpndgcndbaaGreatDoorW.PrintLast Go.Proofs.YtniibpndgcndbaaGreatDoorW.PrintMore
def TextP (s : S) (v : Val) (c : Nat) : Except Int S := match parseS s with
  | .error k => .error k
  | .ok nd => FillP escT nd v c
theorem TextRet.after {o : Except Int S} {w w1 w2 : World} {e : Ending} (h : TextRet o w1 e w2) (hb : Below w.heap.size w w1) : TextRet o w e w2 := ⟨below_step hb h.1, h.2⟩
def tOf : Except Int S → S
  | .ok s => s
  | .error _ => []
def kOf : Except Int S → Int
  | .ok _ => 0
  | .error k => k
theorem TextRet.uni {o : Except Int S} {w w1 : World} {e : Ending} (h : TextRet o w e w1) : Below w.heap.size w w1 ∧ e = .returned (.tuple #[.string (bs (tOf o)), .int .i64 (kOf o)]) := by
  obtain ⟨hb, h⟩ := h
  cases o with
  | ok s => exact ⟨hb, h⟩
  | error k => exact ⟨hb, h⟩
set_option maxHeartbeats 1000000 in
set_option maxRecDepth 100000 in
theorem text_any (s : S) (hs : s.length ≤ 1048576) (hpo : ∀ nd, parseS s = .ok nd → nd.sm ∧ nd.len ≤ 1048576 ∧ nd.cnt ≤ 1048576) (v : Val) (A3 : Option Addr) (c3 : Nat) (A4 : Option Addr) (c4 : Nat) (c : Nat) (w : World) (hG : GlobR w) (hv : v.fit) (hV : RdV w v A3 c3 A4 c4) :
    Calls Tryz.prog 28 #[.string (bs s), vAgg v A3 c3 A4 c4, .int .u8 c] w (TextRet (TextP s v c) w) := by
  obtain ⟨o, ho⟩ : ∃ o, TextP s v c = o := ⟨_, rfl⟩
  rw [ho]
  have HO := Aside0.mk ho
  have hb1 := below_alloc (Below.refl w.heap.size w) (vObj v.k v.t v.n v.i v.m A3 c3 A4 c4)
  have BK1 := blk_new w (vObj v.k v.t v.n v.i v.m A3 c3 A4 c4)
  have HB1 := Aside0.mk hb1
  have HG := Aside0.mk hG
  have HV := Aside0.mk hV
  have HF := Aside0.mk hv
  have hps := parse_any s hs (w.alloc (vObj v.k v.t v.n v.i v.m A3 c3 A4 c4)) (hG.below hb1).glob
  have HPO := Aside0.mk hpo
  clear ho hb1 hG hV hv hpo
  go_enter Tryz.func28, Tryz.ntmps28
  go_upto_region 1 with (fail)
  generalize w.alloc (vObj v.k v.t v.n v.i v.m A3 c3 A4 c4) = W at BK1 HB1 hps ⊢
  generalize w.heap.size = b1 at BK1 ⊢
  cases hp : parseS s with
  | error k =>
    rw [hp] at hps
    have ho : Except.error k = o := by rw [← HO.out]; unfold TextP; rw [hp]
    subst ho
    have hk : (k == 0) = false := by
      rw [beq_eq_false_iff_ne]
      intro h0
      subst h0
      unfold parseS nodesP at hp
      repeat' split at hp
      all_goals cases hp
    clear hp
    go_wp2_with fail
    refine hps.mono ?_
    rintro e w2 ⟨hb, rfl⟩
    have HB2 := Aside0.mk (below_step HB1.out hb)
    clear hps hb
    go_wp2
    go_ret2
    exact ⟨HB2.out, rfl⟩
  | ok nd =>
    rw [hp] at hps
    have ho : FillP escT nd v c = o := by rw [← HO.out]; unfold TextP; rw [hp]
    obtain ⟨hn1, hn2, hn3⟩ := HPO.out nd hp
    clear hp HPO
    go_wp2_with fail
    refine hps.mono ?_
    rintro e w2 ⟨hb, A, c0, rfl, _, hR⟩
    have HB2 := Aside0.mk (below_step HB1.out hb)
    obtain ⟨y0, y1, y2, y3, y4, -⟩ := cells_5 (blk_below BK1 hb)
    have hfl := fill_any nd A c0 v A3 c3 A4 c4 c w2 (HG.out.below HB2.out) hn1 hn2 hn3 hR HF.out (HV.out.below HB2.out)
    rw [ho] at hfl
    clear hps hb BK1 ho hR hn1 hn2 hn3
    go_wp2_with fail
    refine hfl.mono ?_
    rintro e w3 hret
    have HR := Aside0.mk (hret.after HB2.out)
    obtain ⟨_, rfl⟩ := hret.uni
    clear hfl hret
    generalize bs (tOf o) = rt at HR ⊢
    generalize kOf o = rk at HR ⊢
    go_wp2
    go_ret2
    exact HR.out
end Go.Proofs.YtniibpndgcndbaaGreatDoor.Tpl
namespace Go.Proofs.YtniibpndgcndbaaGreatDoor.Tpl
open Go.RowKit Go.Proofs Go.Proofs.YtniibpndgcndbaaGreatDoor.PB Go.Proofs.YtniibpndgcndbaaGreatDoor.Short Go.Proofs.YtniibpndgcndbaaGreatDoorW.PrintWords Go.Proofs.YtniibpndgcndbaaGreatDoorW.PrintLast Go.Proofs.YtniibpndgcndbaaGreatDoorW.PrintMore
def srcA : S := [123, 123, 101, 97, 99, 104, 32, 108, 125, 125, 123, 123, 116, 104, 105, 115, 125, 125, 44, 123, 123, 101, 110, 100, 125, 125, 60, 123, 123, 105, 102, 32, 110, 125, 125, 120, 123, 123, 101, 108, 115, 101, 125, 125, 121, 123, 123, 101, 110, 100, 125, 125, 123, 123, 105, 102, 32, 109, 125, 125, 122, 123, 123, 101, 110, 100, 125, 125]
def srcM : S := [123, 123, 109, 125, 125]
def srcE : S := [123, 123, 101, 97, 99, 104, 32, 110, 125, 125, 123, 123, 101, 110, 100, 125, 125]
def srcL : S := [97, 123, 123, 108, 125, 125]
def ndA : Nodes := .cons 5 [] [[108]] (.cons 2 [] [thisS] .nil .nil (.cons 1 [44] [] .nil .nil .nil)) .nil (.cons 1 [60] [] .nil .nil (.cons 3 [] [[110]] (.cons 1 [120] [] .nil .nil .nil) (.cons 1 [121] [] .nil .nil .nil) (.cons 3 [] [[109]] (.cons 1 [122] [] .nil .nil .nil) .nil .nil)))
def ndM : Nodes := .cons 2 [] [[109]] .nil .nil .nil
def ndE : Nodes := .cons 5 [] [[110]] .nil .nil .nil
def ndL : Nodes := .cons 1 [97] [] .nil .nil (.cons 2 [] [[108]] .nil .nil .nil)
def it0 : Val := ⟨2, [], 1, .nil, []⟩
def itB : Val := ⟨3, [], 0, .nil, []⟩
def itL : Vals := .cons 2 [] 1 .nil [] (.cons 1 [60] 0 .nil [] .nil)
def itV : Vals := .cons 4 [] 0 itL [] (.cons 3 [] 0 .nil [] .nil)
def valV : Val := ⟨5, [], 0, itV, [[108], [110]]⟩
theorem parseA : parseS srcA = .ok ndA := by kernel_rfl
theorem parseM : parseS srcM = .ok ndM := by kernel_rfl
theorem parseE : parseS srcE = .ok ndE := by kernel_rfl
theorem parseL : parseS srcL = .ok ndL := by kernel_rfl
theorem textA : TextP srcA valV 2 = .ok [49, 44, 38, 108, 116, 59, 44, 60, 121] := by kernel_rfl
theorem textM : TextP srcM valV 2 = .error 3 := by kernel_rfl
theorem textE : TextP srcE valV 2 = .error 7 := by kernel_rfl
theorem textL : TextP srcL valV 3 = .ok [97, 50] := by kernel_rfl
theorem meansN : MeansP [[110]] valV (.cons 2 [] 1 .nil [] .nil) = .ok itB := by kernel_rfl
theorem meansT : MeansP [thisS] valV (.cons 2 [] 1 .nil [] .nil) = .ok it0 := by kernel_rfl
theorem meansO : MeansP [thisS] valV .nil = .error 3 := by kernel_rfl
theorem fillZ : FillP escT .nil Val.zero 1 = .error 2 := by kernel_rfl
theorem poA : ∀ nd, parseS srcA = .ok nd → nd.sm ∧ nd.len ≤ 1048576 ∧ nd.cnt ≤ 1048576 := by intro nd h; rw [parseA] at h; cases h; exact ⟨by simp [ndA, Nodes.sm, thisS, Nodes.len], by decide, by decide⟩
theorem poM : ∀ nd, parseS srcM = .ok nd → nd.sm ∧ nd.len ≤ 1048576 ∧ nd.cnt ≤ 1048576 := by intro nd h; rw [parseM] at h; cases h; exact ⟨by simp [ndM, Nodes.sm, Nodes.len], by decide, by decide⟩
theorem poE : ∀ nd, parseS srcE = .ok nd → nd.sm ∧ nd.len ≤ 1048576 ∧ nd.cnt ≤ 1048576 := by intro nd h; rw [parseE] at h; cases h; exact ⟨by simp [ndE, Nodes.sm, Nodes.len], by decide, by decide⟩
theorem poL : ∀ nd, parseS srcL = .ok nd → nd.sm ∧ nd.len ≤ 1048576 ∧ nd.cnt ≤ 1048576 := by intro nd h; rw [parseL] at h; cases h; exact ⟨by simp [ndL, Nodes.sm, Nodes.len], by decide, by decide⟩
theorem valV_fit : valV.fit := ⟨by simp [valV, Val.sm, Val.one, Vals.sm, itV, itL, Vals.len], by decide⟩
abbrev c5 (k : Nat) (t : S) (n : Int) (i : Vals) (m : List S) (A3 : Option Addr) (d3 : Nat) (A4 : Option Addr) (d4 : Nat) : List Value := [.int .u8 k, .string (bs t), .int .i64 n, .slice A3 i.len d3, .slice A4 m.length d4]
theorem rd_two {W : World} {b k k' d3 d4 d3' d4' : Nat} {t t' : S} {n n' : Int} {i i' : Vals} {m m' : List S} {A3 A4 A3' A4' : Option Addr} (h : W.heap[b]? = some (.cells (c5 k t n i m A3 d3 A4 d4 ++ c5 k' t' n' i' m' A3' d3' A4' d4').toArray 43 (0, 0))) (h3 : Vals.Rd W A3 d3 i) (h4 : RdS W A4 d4 m) (h3' : Vals.Rd W A3' d3' i') (h4' : RdS W A4' d4' m') :
    Vals.Rd W (some ⟨b, 0, none⟩) 2 (.cons k t n i m (.cons k' t' n' i' m' .nil)) := by
  refine ⟨⟨rfl, by simp [Vals.len], fun _ => ⟨_, rfl, fun j x hx => ?_⟩⟩, Nat.le_refl _⟩
  match j, hx with
  | 0, hx =>
    obtain rfl : (⟨k, bs t, n, i.of, m.map bs⟩ : SV) = x := by simpa [Vals.of] using hx
    refine ⟨_, rfl, k43_mk W (⟨k, bs t, n, i.of, m.map bs⟩ : SV) (A3 := A3) (c3 := d3) (by simpa [Vals.of_len] using h3.2) (by simpa [Vals.of_len] using h3.1) (A4 := A4) (c4 := d4) (by simpa using h4.2) (by simpa using h4.1), fun q u hq => ?_⟩
    have hc := blk_cell h q
    have e : (Addr.add ⟨b, 0, none⟩ (0 * kV.sz + q)) = ⟨b, q, none⟩ := by rw [Addr.add_lit]; congr 1; omega
    rw [e, hc]
    simp only [Vals.of_len, List.length_map] at hq
    have hl := (List.getElem?_eq_some_iff.1 hq).1
    rw [List.getElem?_toArray, List.getElem?_append_left hl]
    exact hq
  | 1, hx =>
    obtain rfl : (⟨k', bs t', n', i'.of, m'.map bs⟩ : SV) = x := by simpa [Vals.of] using hx
    refine ⟨_, rfl, k43_mk W (⟨k', bs t', n', i'.of, m'.map bs⟩ : SV) (A3 := A3') (c3 := d3') (by simpa [Vals.of_len] using h3'.2) (by simpa [Vals.of_len] using h3'.1) (A4 := A4') (c4 := d4') (by simpa using h4'.2) (by simpa using h4'.1), fun q u hq => ?_⟩
    have hc := blk_cell h (5 + q)
    have e : (Addr.add ⟨b, 0, none⟩ (1 * kV.sz + q)) = ⟨b, 5 + q, none⟩ := by rw [Addr.add_lit]; show (⟨b, 0 + (1 * 5 + q), none⟩ : Addr) = _; congr 1; omega
    rw [e, hc]
    simp only [Vals.of_len, List.length_map] at hq
    rw [List.getElem?_toArray, List.getElem?_append_right (by simp)]
    simpa using hq
  | j + 2, hx => simp [Vals.of] at hx
theorem rd_one {W : World} {b k d3 d4 : Nat} {t : S} {n : Int} {i : Vals} {m : List S} {A3 A4 : Option Addr} (h : W.heap[b]? = some (.cells (c5 k t n i m A3 d3 A4 d4).toArray 43 (0, 0))) (h3 : Vals.Rd W A3 d3 i) (h4 : RdS W A4 d4 m) :
    Vals.Rd W (some ⟨b, 0, none⟩) 1 (.cons k t n i m .nil) := by
  refine ⟨⟨rfl, by simp [Vals.len], fun _ => ⟨_, rfl, fun j x hx => ?_⟩⟩, Nat.le_refl _⟩
  match j, hx with
  | 0, hx =>
    obtain rfl : (⟨k, bs t, n, i.of, m.map bs⟩ : SV) = x := by simpa [Vals.of] using hx
    refine ⟨_, rfl, k43_mk W (⟨k, bs t, n, i.of, m.map bs⟩ : SV) (A3 := A3) (c3 := d3) (by simpa [Vals.of_len] using h3.2) (by simpa [Vals.of_len] using h3.1) (A4 := A4) (c4 := d4) (by simpa using h4.2) (by simpa using h4.1), fun q u hq => ?_⟩
    have hc := blk_cell h q
    have e : (Addr.add ⟨b, 0, none⟩ (0 * kV.sz + q)) = ⟨b, q, none⟩ := by rw [Addr.add_lit]; congr 1; omega
    rw [e, hc]
    simp only [Vals.of_len, List.length_map] at hq
    rw [List.getElem?_toArray]
    exact hq
  | j + 1, hx => simp [Vals.of] at hx
end Go.Proofs.YtniibpndgcndbaaGreatDoor.Tpl
namespace Go.Proofs.YtniibpndgcndbaaGreatDoor.Tpl
open Go.RowKit Go.Proofs Go.Proofs.YtniibpndgcndbaaGreatDoor.PB Go.Proofs.YtniibpndgcndbaaGreatDoor.Short Go.Proofs.YtniibpndgcndbaaGreatDoorW.PrintWords Go.Proofs.YtniibpndgcndbaaGreatDoorW.PrintLast Go.Proofs.YtniibpndgcndbaaGreatDoorW.PrintMore
theorem blk_new_at {w : World} {o : Obj} {n : Nat} (h : n = w.heap.size) : (w.alloc o).heap[n]? = some o := by subst h; exact blk_new w o
abbrev oL : Obj := .cells #[.int .u8 2, .string ⟨#[]⟩, .int .i64 1, .slice none 0 0, .slice none 0 0, .int .u8 1, .string ⟨#[60]⟩, .int .i64 0, .slice none 0 0, .slice none 0 0] 43 (0, 0)
abbrev oV (s : Nat) : Obj := .cells #[.int .u8 4, .string ⟨#[]⟩, .int .i64 0, .slice (some ⟨s, 0, none⟩) 2 2, .slice none 0 0, .int .u8 3, .string ⟨#[]⟩, .int .i64 0, .slice none 0 0, .slice none 0 0] 43 (0, 0)
abbrev o1 (s : Nat) : Obj := .cells #[.int .u8 4, .string ⟨#[]⟩, .int .i64 0, .slice (some ⟨s, 0, none⟩) 2 2, .slice none 0 0] 43 (0, 0)
abbrev o2 (s : Nat) : Obj := .cells #[.int .u8 5, .string ⟨#[]⟩, .int .i64 0, .slice (some ⟨s + 1 + 1 + 1, 0, none⟩) 2 2, .slice (some ⟨s + 1 + 1, 0, none⟩) 2 2] 43 (0, 0)
theorem rdV_nil (W : World) : Vals.Rd W none 0 .nil := ⟨Kd.C_nil _ _, Nat.le_refl _⟩
theorem rdS_nil (W : World) : RdS W none 0 [] := ⟨Kd.C_nil _ _, Nat.le_refl _⟩
theorem rd_L {W : World} {s : Nat} (h : W.heap[s]? = some oL) : Vals.Rd W (some ⟨s, 0, none⟩) 2 itL := rd_two (i := .nil) (m := []) (i' := .nil) (m' := []) (t := []) (t' := [60]) h (rdV_nil W) (rdS_nil W) (rdV_nil W) (rdS_nil W)
theorem rd_V {W : World} {s s3 : Nat} (h : W.heap[s]? = some oL) (h3 : W.heap[s3]? = some (oV s)) : Vals.Rd W (some ⟨s3, 0, none⟩) 2 itV := rd_two (i := itL) (m := []) (i' := .nil) (m' := []) (t := []) (t' := []) h3 (rd_L h) (rdS_nil W) (rdV_nil W) (rdS_nil W)
theorem rd_N {W : World} {s : Nat} (h : W.heap[s]? = some (.cells #[.string ⟨#[108]⟩, .string ⟨#[110]⟩] 9 (0, 0))) : RdS W (some ⟨s, 0, none⟩) 2 [[108], [110]] := by
  refine ⟨⟨rfl, by simp, fun _ => ⟨_, rfl, fun j x hx => ?_⟩⟩, Nat.le_refl _⟩
  match j, hx with
  | 0, hx =>
    simp at hx
    subst hx
    refine ⟨[.string (bs [108])], rfl, rfl, fun i u hu => ?_⟩
    have hi : i = 0 := by have := (List.getElem?_eq_some_iff.1 hu).1; simp at this; omega
    subst hi
    simp at hu
    subst hu
    exact (blk_cell h 0).trans rfl
  | 1, hx =>
    simp at hx
    subst hx
    refine ⟨[.string (bs [110])], rfl, rfl, fun i u hu => ?_⟩
    have hi : i = 0 := by have := (List.getElem?_eq_some_iff.1 hu).1; simp at this; omega
    subst hi
    simp at hu
    subst hu
    exact (blk_cell h 1).trans rfl
  | j + 2, hx => simp at hx
structure LvIn (w : World) (s : Nat) (W : World) : Prop where
  bel : Below w.heap.size w W
  bL : W.heap[s]? = some oL
  b1 : W.heap[s + 1]? = some (o1 s)
  bN : W.heap[s + 1 + 1]? = some (.cells #[.string ⟨#[108]⟩, .string ⟨#[110]⟩] 9 (0, 0))
  bV : W.heap[s + 1 + 1 + 1]? = some (oV s)
  b2 : W.heap[s + 1 + 1 + 1 + 1]? = some (o2 s)
theorem LvIn.below {w : World} {s : Nat} {W W1 : World} (h : LvIn w s W) (hb : Below W.heap.size W W1) : LvIn w s W1 := ⟨below_step h.bel hb, blk_below h.bL hb, blk_below h.b1 hb, blk_below h.bN hb, blk_below h.bV hb, blk_below h.b2 hb⟩
theorem LvIn.rd {w : World} {s : Nat} {W : World} (h : LvIn w s W) : RdV W valV (some ⟨s + 1 + 1 + 1, 0, none⟩) 2 (some ⟨s + 1 + 1, 0, none⟩) 2 := ⟨rd_V h.bL h.bV, rd_N h.bN⟩
abbrev oI : Obj := .cells #[.int .u8 2, .string ⟨#[]⟩, .int .i64 1, .slice none 0 0, .slice none 0 0] 43 (0, 0)
abbrev aV (s : Nat) : Value := .agg #[.int .u8 5, .string ⟨#[]⟩, .int .i64 0, .slice (some ⟨s + 1 + 1 + 1, 0, none⟩) 2 2, .slice (some ⟨s + 1 + 1, 0, none⟩) 2 2]
theorem lv_means {w W : World} {s : Nat} (h : LvIn w s W) (t : S) (ht : t.length ≤ 1048576) (x : Val) (hm : MeansP [t] valV (.cons 2 [] 1 .nil [] .nil) = .ok x) (V : World) (n m : Nat) (hb : Below W.heap.size W V) (hn : V.heap[n]? = some (litB t)) (ho : V.heap[m]? = some oI) :
    Calls Tryz.prog 31 #[.slice (some ⟨n, 0, none⟩) 1 1, aV s, .slice (some ⟨m, 0, none⟩) 1 1] V fun e w' => Below V.heap.size V w' ∧ ∃ A3 c3 A4 c4, e = .returned (.tuple #[vAgg x A3 c3 A4 c4, .int .i64 0]) := by
  have hI := h.below hb
  have h1 := means_any [t] (some ⟨n, 0, none⟩) 1 valV _ _ _ _ (.cons 2 [] 1 .nil [] .nil) (some ⟨m, 0, none⟩) 1 V (lit_at hn) (by simp) valV_fit hI.rd (by simp [Vals.sm, Vals.len]) (by decide) (by decide) (rd_one (t := []) (i := .nil) (m := []) ho (rdV_nil V) (rdS_nil V))
  rw [hm] at h1
  refine h1.mono ?_
  rintro e w' ⟨hb, A3, c3, A4, c4, rfl, _⟩
  exact ⟨hb, A3, c3, A4, c4, rfl⟩
def LvMid (w : World) (s : Nat) (W : World) (k n : Int) (s9 s10 : Value) (wx : World) : Prop := ∃ bx, s9 = .pointer (some ⟨bx, 0, none⟩) ∧ s10 = .int .i64 0 ∧ wx.cell? ⟨bx, 0, none⟩ = some (.int .u8 k) ∧ wx.cell? ⟨bx, 2, none⟩ = some (.int .i64 n) ∧ LvIn w s wx ∧ Below W.heap.size W wx
theorem lv_new {w : World} {s : Nat} {k n : Int} {W w2 : World} {vt v3 v4 : Value} (h : LvIn w s W) (hb : Below W.heap.size W w2) : LvMid w s W k n (.pointer (some ⟨w2.heap.size, 0, none⟩)) (.int .i64 0) (w2.alloc (.cells #[.int .u8 k, vt, .int .i64 n, v3, v4] 43)) :=
  ⟨_, rfl, rfl, (blk_cell (blk_new w2 _) 0).trans rfl, (blk_cell (blk_new w2 _) 2).trans rfl, (h.below hb).below (below_alloc (Below.refl _ _) _), below_alloc hb _⟩
theorem lv_old {w : World} {s : Nat} {k n : Int} {W V w2 : World} {vt v3 v4 : Value} {b : Nat} (h : LvIn w s W) (hV : Below W.heap.size W V) (hb : Below V.heap.size V w2) (hz : V.heap[b]? = some zObj) (hle : W.heap.size ≤ b) : LvMid w s W k n (.pointer (some ⟨b, 0, none⟩)) (.int .i64 0) (put5 w2 b 0 (.int .u8 k) vt (.int .i64 n) v3 v4) :=
  ⟨_, rfl, rfl, (blk_cell (put5_blk (blk_below hz hb)) 0).trans rfl, (blk_cell (put5_blk (blk_below hz hb)) 2).trans rfl, h.below (put5_below (below_step hV hb) hle), put5_below (below_step hV hb) hle⟩
set_option maxHeartbeats 4000000 in
set_option maxRecDepth 100000 in
theorem lives14_any (w : World) (hG : GlobR w) : Calls Tryz.prog 30 #[] w fun e w' => e = .returned (.bool true) ∧ Below w.heap.size w w' := by
  have HG := Aside0.mk hG
  clear hG
  go_enter Tryz.func30, Tryz.ntmps30
  go_upto_region 3 with (fail)
  have hI : LvIn w w.heap.size (((((w.alloc oL).alloc (o1 w.heap.size)).alloc (.cells #[.string ⟨#[108]⟩, .string ⟨#[110]⟩] 9)).alloc (oV w.heap.size)).alloc (o2 w.heap.size)) :=
    ⟨below_alloc (below_alloc (below_alloc (below_alloc (below_alloc (Below.refl _ _) _) _) _) _) _, by repeat (first | (with_reducible refine blk_drew ?_) | exact blk_new_at (by simp only [World.size_alloc, World.size_drew]) | (with_reducible refine blk_alloc ?_ _)), by repeat (first | (with_reducible refine blk_drew ?_) | exact blk_new_at (by simp only [World.size_alloc, World.size_drew]) | (with_reducible refine blk_alloc ?_ _)), by repeat (first | (with_reducible refine blk_drew ?_) | exact blk_new_at (by simp only [World.size_alloc, World.size_drew]) | (with_reducible refine blk_alloc ?_ _)), by repeat (first | (with_reducible refine blk_drew ?_) | exact blk_new_at (by simp only [World.size_alloc, World.size_drew]) | (with_reducible refine blk_alloc ?_ _)), by repeat (first | (with_reducible refine blk_drew ?_) | exact blk_new_at (by simp only [World.size_alloc, World.size_drew]) | (with_reducible refine blk_alloc ?_ _))⟩
  obtain ⟨s, hs⟩ : ∃ s, w.heap.size = s := ⟨_, rfl⟩
  rw [hs] at hI ⊢
  generalize (((((w.alloc oL).alloc (o1 s)).alloc (.cells #[.string ⟨#[108]⟩, .string ⟨#[110]⟩] 9)).alloc (oV s)).alloc (o2 s)) = W at hI ⊢
  have HI := Aside0.mk hI
  obtain ⟨y0, y1, y2, y3, y4, -⟩ := cells_5 hI.b2
  clear hI
  have hT := text_any srcA (by decide) poA valV _ _ _ _ 2 W (HG.out.below HI.out.bel) valV_fit HI.out.rd
  rw [textA] at hT
  go_wp2_with fail
  refine hT.mono ?_
  rintro e W1 ⟨hb, rfl⟩
  have HI1 := Aside0.mk (HI.out.below hb)
  clear HI hb hT y0 y1 y2 y3 y4
  obtain ⟨y0, y1, y2, y3, y4, -⟩ := cells_5 HI1.out.b2
  have hT := text_any srcM (by decide) poM valV _ _ _ _ 2 W1 (HG.out.below HI1.out.bel) valV_fit HI1.out.rd
  rw [textM] at hT
  go_wp2_with fail
  refine hT.mono ?_
  rintro e W2 ⟨hb, rfl⟩
  have HI2 := Aside0.mk (HI1.out.below hb)
  clear HI1 hb hT y0 y1 y2 y3 y4
  obtain ⟨y0, y1, y2, y3, y4, -⟩ := cells_5 HI2.out.b2
  have hT := text_any srcE (by decide) poE valV _ _ _ _ 2 W2 (HG.out.below HI2.out.bel) valV_fit HI2.out.rd
  rw [textE] at hT
  go_wp2_with fail
  refine hT.mono ?_
  rintro e W3 ⟨hb, rfl⟩
  have HI3 := Aside0.mk (HI2.out.below hb)
  clear HI2 hb hT y0 y1 y2 y3 y4
  go_upto_region 6 with (fail)
  have hM : ∀ (V : World) (n m : Nat), Below W3.heap.size W3 V → V.heap[n]? = some (.cells #[.string ⟨#[110]⟩] 9 (0, 0)) → V.heap[m]? = some oI → Calls Tryz.prog 31 #[.slice (some ⟨n, 0, none⟩) 1 1, aV s, .slice (some ⟨m, 0, none⟩) 1 1] V fun e w' => Below V.heap.size V w' ∧ ∃ A3 c3 A4 c4, e = .returned (.tuple #[.agg #[.int .u8 3, .string ⟨#[]⟩, .int .i64 0, .slice A3 0 c3, .slice A4 0 c4], .int .i64 0]) := lv_means HI3.out [110] (by decide) itB meansN
  have KP : Aside0 (∀ w' : World, Below W3.heap.size W3 w' → w'.cell? ⟨s + 1 + 1 + 1 + 1, 0, none⟩ = some (.int .u8 5) ∧ w'.cell? ⟨s + 1 + 1 + 1 + 1, 1, none⟩ = some (.string ⟨#[]⟩) ∧ w'.cell? ⟨s + 1 + 1 + 1 + 1, 2, none⟩ = some (.int .i64 0) ∧ w'.cell? ⟨s + 1 + 1 + 1 + 1, 3, none⟩ = some (.slice (some ⟨s + 1 + 1 + 1, 0, none⟩) 2 2) ∧ w'.cell? ⟨s + 1 + 1 + 1 + 1, 4, none⟩ = some (.slice (some ⟨s + 1 + 1, 0, none⟩) 2 2) ∧ w'.cell? ⟨s + 1, 3, none⟩ = some (.slice (some ⟨s, 0, none⟩) 2 2) ∧ w'.cell? ⟨s, 0, none⟩ = some (.int .u8 2) ∧ w'.cell? ⟨s, 1, none⟩ = some (.string ⟨#[]⟩) ∧ w'.cell? ⟨s, 2, none⟩ = some (.int .i64 1) ∧ w'.cell? ⟨s, 3, none⟩ = some (.slice none 0 0) ∧ w'.cell? ⟨s, 4, none⟩ = some (.slice none 0 0)) :=
    ⟨fun w' hb => ⟨(blk_cell (HI3.out.below hb).b2 0).trans rfl, (blk_cell (HI3.out.below hb).b2 1).trans rfl, (blk_cell (HI3.out.below hb).b2 2).trans rfl, (blk_cell (HI3.out.below hb).b2 3).trans rfl, (blk_cell (HI3.out.below hb).b2 4).trans rfl, (blk_cell (HI3.out.below hb).b1 3).trans rfl, (blk_cell (HI3.out.below hb).bL 0).trans rfl, (blk_cell (HI3.out.below hb).bL 1).trans rfl, (blk_cell (HI3.out.below hb).bL 2).trans rfl, (blk_cell (HI3.out.below hb).bL 3).trans rfl, (blk_cell (HI3.out.below hb).bL 4).trans rfl⟩⟩
  obtain ⟨y0, y1, y2, y3, y4, y5, x0, x1, x2, x3, x4⟩ := KP.out W3 (Below.refl _ _)
  have VLI : Aside0 (Below W3.heap.size W3 ((W3.alloc (.cells #[.string ⟨#[110]⟩] 9 (0, 0))).alloc oI).drew) := ⟨below_drew (below_alloc (below_alloc (Below.refl _ _) _) _)⟩
  have NLI : Aside0 (((W3.alloc (.cells #[.string ⟨#[110]⟩] 9 (0, 0))).alloc oI).drew.heap[W3.heap.size]? = some (.cells #[.string ⟨#[110]⟩] 9 (0, 0))) := ⟨by refine blk_drew ?_; repeat (first | (with_reducible refine blk_drew ?_) | exact blk_new_at (by simp only [World.size_alloc, World.size_drew]) | (with_reducible refine blk_alloc ?_ _))⟩
  have MLI : Aside0 (((W3.alloc (.cells #[.string ⟨#[110]⟩] 9 (0, 0))).alloc oI).drew.heap[W3.heap.size + 1]? = some oI) := ⟨by refine blk_drew ?_; repeat (first | (with_reducible refine blk_drew ?_) | exact blk_new_at (by simp only [World.size_alloc, World.size_drew]) | (with_reducible refine blk_alloc ?_ _))⟩
  have VIL : Aside0 (Below W3.heap.size W3 ((W3.alloc oI).alloc (.cells #[.string ⟨#[110]⟩] 9 (0, 0))).drew) := ⟨below_drew (below_alloc (below_alloc (Below.refl _ _) _) _)⟩
  have MIL : Aside0 (((W3.alloc oI).alloc (.cells #[.string ⟨#[110]⟩] 9 (0, 0))).drew.heap[W3.heap.size]? = some oI) := ⟨by refine blk_drew ?_; repeat (first | (with_reducible refine blk_drew ?_) | exact blk_new_at (by simp only [World.size_alloc, World.size_drew]) | (with_reducible refine blk_alloc ?_ _))⟩
  have NIL : Aside0 (((W3.alloc oI).alloc (.cells #[.string ⟨#[110]⟩] 9 (0, 0))).drew.heap[W3.heap.size + 1]? = some (.cells #[.string ⟨#[110]⟩] 9 (0, 0))) := ⟨by refine blk_drew ?_; repeat (first | (with_reducible refine blk_drew ?_) | exact blk_new_at (by simp only [World.size_alloc, World.size_drew]) | (with_reducible refine blk_alloc ?_ _))⟩
  have VLIZ : Aside0 (Below W3.heap.size W3 (((W3.alloc (.cells #[.string ⟨#[110]⟩] 9 (0, 0))).alloc oI).alloc zBox).drew) := ⟨below_drew (below_alloc (below_alloc (below_alloc (Below.refl _ _) _) _) _)⟩
  have NLIZ : Aside0 ((((W3.alloc (.cells #[.string ⟨#[110]⟩] 9 (0, 0))).alloc oI).alloc zBox).drew.heap[W3.heap.size]? = some (.cells #[.string ⟨#[110]⟩] 9 (0, 0))) := ⟨by refine blk_drew ?_; repeat (first | (with_reducible refine blk_drew ?_) | exact blk_new_at (by simp only [World.size_alloc, World.size_drew]) | (with_reducible refine blk_alloc ?_ _))⟩
  have MLIZ : Aside0 ((((W3.alloc (.cells #[.string ⟨#[110]⟩] 9 (0, 0))).alloc oI).alloc zBox).drew.heap[W3.heap.size + 1]? = some oI) := ⟨by refine blk_drew ?_; repeat (first | (with_reducible refine blk_drew ?_) | exact blk_new_at (by simp only [World.size_alloc, World.size_drew]) | (with_reducible refine blk_alloc ?_ _))⟩
  have ZLIZ : Aside0 ((((W3.alloc (.cells #[.string ⟨#[110]⟩] 9 (0, 0))).alloc oI).alloc zBox).drew.heap[W3.heap.size + 1 + 1]? = some zObj) := ⟨by refine blk_drew ?_; repeat (first | (with_reducible refine blk_drew ?_) | exact blk_new_at (by simp only [World.size_alloc, World.size_drew]) | (with_reducible refine blk_alloc ?_ _))⟩
  have VLZI : Aside0 (Below W3.heap.size W3 (((W3.alloc (.cells #[.string ⟨#[110]⟩] 9 (0, 0))).alloc zBox).alloc oI).drew) := ⟨below_drew (below_alloc (below_alloc (below_alloc (Below.refl _ _) _) _) _)⟩
  have NLZI : Aside0 ((((W3.alloc (.cells #[.string ⟨#[110]⟩] 9 (0, 0))).alloc zBox).alloc oI).drew.heap[W3.heap.size]? = some (.cells #[.string ⟨#[110]⟩] 9 (0, 0))) := ⟨by refine blk_drew ?_; repeat (first | (with_reducible refine blk_drew ?_) | exact blk_new_at (by simp only [World.size_alloc, World.size_drew]) | (with_reducible refine blk_alloc ?_ _))⟩
  have ZLZI : Aside0 ((((W3.alloc (.cells #[.string ⟨#[110]⟩] 9 (0, 0))).alloc zBox).alloc oI).drew.heap[W3.heap.size + 1]? = some zObj) := ⟨by refine blk_drew ?_; repeat (first | (with_reducible refine blk_drew ?_) | exact blk_new_at (by simp only [World.size_alloc, World.size_drew]) | (with_reducible refine blk_alloc ?_ _))⟩
  have MLZI : Aside0 ((((W3.alloc (.cells #[.string ⟨#[110]⟩] 9 (0, 0))).alloc zBox).alloc oI).drew.heap[W3.heap.size + 1 + 1]? = some oI) := ⟨by refine blk_drew ?_; repeat (first | (with_reducible refine blk_drew ?_) | exact blk_new_at (by simp only [World.size_alloc, World.size_drew]) | (with_reducible refine blk_alloc ?_ _))⟩
  have VZLI : Aside0 (Below W3.heap.size W3 (((W3.alloc zBox).alloc (.cells #[.string ⟨#[110]⟩] 9 (0, 0))).alloc oI).drew) := ⟨below_drew (below_alloc (below_alloc (below_alloc (Below.refl _ _) _) _) _)⟩
  have ZZLI : Aside0 ((((W3.alloc zBox).alloc (.cells #[.string ⟨#[110]⟩] 9 (0, 0))).alloc oI).drew.heap[W3.heap.size]? = some zObj) := ⟨by refine blk_drew ?_; repeat (first | (with_reducible refine blk_drew ?_) | exact blk_new_at (by simp only [World.size_alloc, World.size_drew]) | (with_reducible refine blk_alloc ?_ _))⟩
  have NZLI : Aside0 ((((W3.alloc zBox).alloc (.cells #[.string ⟨#[110]⟩] 9 (0, 0))).alloc oI).drew.heap[W3.heap.size + 1]? = some (.cells #[.string ⟨#[110]⟩] 9 (0, 0))) := ⟨by refine blk_drew ?_; repeat (first | (with_reducible refine blk_drew ?_) | exact blk_new_at (by simp only [World.size_alloc, World.size_drew]) | (with_reducible refine blk_alloc ?_ _))⟩
  have MZLI : Aside0 ((((W3.alloc zBox).alloc (.cells #[.string ⟨#[110]⟩] 9 (0, 0))).alloc oI).drew.heap[W3.heap.size + 1 + 1]? = some oI) := ⟨by refine blk_drew ?_; repeat (first | (with_reducible refine blk_drew ?_) | exact blk_new_at (by simp only [World.size_alloc, World.size_drew]) | (with_reducible refine blk_alloc ?_ _))⟩
  have VILZ : Aside0 (Below W3.heap.size W3 (((W3.alloc oI).alloc (.cells #[.string ⟨#[110]⟩] 9 (0, 0))).alloc zBox).drew) := ⟨below_drew (below_alloc (below_alloc (below_alloc (Below.refl _ _) _) _) _)⟩
  have MILZ : Aside0 ((((W3.alloc oI).alloc (.cells #[.string ⟨#[110]⟩] 9 (0, 0))).alloc zBox).drew.heap[W3.heap.size]? = some oI) := ⟨by refine blk_drew ?_; repeat (first | (with_reducible refine blk_drew ?_) | exact blk_new_at (by simp only [World.size_alloc, World.size_drew]) | (with_reducible refine blk_alloc ?_ _))⟩
  have NILZ : Aside0 ((((W3.alloc oI).alloc (.cells #[.string ⟨#[110]⟩] 9 (0, 0))).alloc zBox).drew.heap[W3.heap.size + 1]? = some (.cells #[.string ⟨#[110]⟩] 9 (0, 0))) := ⟨by refine blk_drew ?_; repeat (first | (with_reducible refine blk_drew ?_) | exact blk_new_at (by simp only [World.size_alloc, World.size_drew]) | (with_reducible refine blk_alloc ?_ _))⟩
  have ZILZ : Aside0 ((((W3.alloc oI).alloc (.cells #[.string ⟨#[110]⟩] 9 (0, 0))).alloc zBox).drew.heap[W3.heap.size + 1 + 1]? = some zObj) := ⟨by refine blk_drew ?_; repeat (first | (with_reducible refine blk_drew ?_) | exact blk_new_at (by simp only [World.size_alloc, World.size_drew]) | (with_reducible refine blk_alloc ?_ _))⟩
  have VIZL : Aside0 (Below W3.heap.size W3 (((W3.alloc oI).alloc zBox).alloc (.cells #[.string ⟨#[110]⟩] 9 (0, 0))).drew) := ⟨below_drew (below_alloc (below_alloc (below_alloc (Below.refl _ _) _) _) _)⟩
  have MIZL : Aside0 ((((W3.alloc oI).alloc zBox).alloc (.cells #[.string ⟨#[110]⟩] 9 (0, 0))).drew.heap[W3.heap.size]? = some oI) := ⟨by refine blk_drew ?_; repeat (first | (with_reducible refine blk_drew ?_) | exact blk_new_at (by simp only [World.size_alloc, World.size_drew]) | (with_reducible refine blk_alloc ?_ _))⟩
  have ZIZL : Aside0 ((((W3.alloc oI).alloc zBox).alloc (.cells #[.string ⟨#[110]⟩] 9 (0, 0))).drew.heap[W3.heap.size + 1]? = some zObj) := ⟨by refine blk_drew ?_; repeat (first | (with_reducible refine blk_drew ?_) | exact blk_new_at (by simp only [World.size_alloc, World.size_drew]) | (with_reducible refine blk_alloc ?_ _))⟩
  have NIZL : Aside0 ((((W3.alloc oI).alloc zBox).alloc (.cells #[.string ⟨#[110]⟩] 9 (0, 0))).drew.heap[W3.heap.size + 1 + 1]? = some (.cells #[.string ⟨#[110]⟩] 9 (0, 0))) := ⟨by refine blk_drew ?_; repeat (first | (with_reducible refine blk_drew ?_) | exact blk_new_at (by simp only [World.size_alloc, World.size_drew]) | (with_reducible refine blk_alloc ?_ _))⟩
  have VZIL : Aside0 (Below W3.heap.size W3 (((W3.alloc zBox).alloc oI).alloc (.cells #[.string ⟨#[110]⟩] 9 (0, 0))).drew) := ⟨below_drew (below_alloc (below_alloc (below_alloc (Below.refl _ _) _) _) _)⟩
  have ZZIL : Aside0 ((((W3.alloc zBox).alloc oI).alloc (.cells #[.string ⟨#[110]⟩] 9 (0, 0))).drew.heap[W3.heap.size]? = some zObj) := ⟨by refine blk_drew ?_; repeat (first | (with_reducible refine blk_drew ?_) | exact blk_new_at (by simp only [World.size_alloc, World.size_drew]) | (with_reducible refine blk_alloc ?_ _))⟩
  have MZIL : Aside0 ((((W3.alloc zBox).alloc oI).alloc (.cells #[.string ⟨#[110]⟩] 9 (0, 0))).drew.heap[W3.heap.size + 1]? = some oI) := ⟨by refine blk_drew ?_; repeat (first | (with_reducible refine blk_drew ?_) | exact blk_new_at (by simp only [World.size_alloc, World.size_drew]) | (with_reducible refine blk_alloc ?_ _))⟩
  have NZIL : Aside0 ((((W3.alloc zBox).alloc oI).alloc (.cells #[.string ⟨#[110]⟩] 9 (0, 0))).drew.heap[W3.heap.size + 1 + 1]? = some (.cells #[.string ⟨#[110]⟩] 9 (0, 0))) := ⟨by refine blk_drew ?_; repeat (first | (with_reducible refine blk_drew ?_) | exact blk_new_at (by simp only [World.size_alloc, World.size_drew]) | (with_reducible refine blk_alloc ?_ _))⟩
  go_cut [9, 10] (fun s9 s10 wx => LvMid w s W3 3 0 s9 s10 wx)
  case first =>
    go_region_held3 (fun w' => w'.cell? ⟨s + 1 + 1 + 1 + 1, 0, none⟩ = some (.int .u8 5) ∧ w'.cell? ⟨s + 1 + 1 + 1 + 1, 1, none⟩ = some (.string ⟨#[]⟩) ∧ w'.cell? ⟨s + 1 + 1 + 1 + 1, 2, none⟩ = some (.int .i64 0) ∧ w'.cell? ⟨s + 1 + 1 + 1 + 1, 3, none⟩ = some (.slice (some ⟨s + 1 + 1 + 1, 0, none⟩) 2 2) ∧ w'.cell? ⟨s + 1 + 1 + 1 + 1, 4, none⟩ = some (.slice (some ⟨s + 1 + 1, 0, none⟩) 2 2) ∧ w'.cell? ⟨s + 1, 3, none⟩ = some (.slice (some ⟨s, 0, none⟩) 2 2) ∧ w'.cell? ⟨s, 0, none⟩ = some (.int .u8 2) ∧ w'.cell? ⟨s, 1, none⟩ = some (.string ⟨#[]⟩) ∧ w'.cell? ⟨s, 2, none⟩ = some (.int .i64 1) ∧ w'.cell? ⟨s, 3, none⟩ = some (.slice none 0 0) ∧ w'.cell? ⟨s, 4, none⟩ = some (.slice none 0 0))
      (first
        | with_reducible exact KP.out _ (put5_below hbd (Nat.le_refl _))
        | with_reducible exact KP.out _ (put5_below hbd (Nat.le_succ _))
        | with_reducible exact KP.out _ (put5_below hbd (Nat.le_succ_of_le (Nat.le_succ _)))
        | with_reducible exact KP.out _ (by repeat first | exact hbd | exact Below.refl _ _ | refine below_drew ?_ | refine below_alloc ?_ _))
      (first
        | (go_at_call 31; (with_reducible refine (hM _ _ _ VLI.out NLI.out MLI.out).mono ?_); rintro e w2 ⟨hb2, A3, c3, A4, c4, rfl⟩; have hbd := below_step VLI.out hb2)
        | (go_at_call 31; (with_reducible refine (hM _ _ _ VIL.out NIL.out MIL.out).mono ?_); rintro e w2 ⟨hb2, A3, c3, A4, c4, rfl⟩; have hbd := below_step VIL.out hb2)
        | (go_at_call 31; (with_reducible refine (hM _ _ _ VLIZ.out NLIZ.out MLIZ.out).mono ?_); rintro e w2 ⟨hb2, A3, c3, A4, c4, rfl⟩; have hbd := below_step VLIZ.out hb2; obtain ⟨q0, q1, q2, q3, q4, r0, r1, r2, r3, r4⟩ := cells_5 (blk_below ZLIZ.out hb2))
        | (go_at_call 31; (with_reducible refine (hM _ _ _ VLZI.out NLZI.out MLZI.out).mono ?_); rintro e w2 ⟨hb2, A3, c3, A4, c4, rfl⟩; have hbd := below_step VLZI.out hb2; obtain ⟨q0, q1, q2, q3, q4, r0, r1, r2, r3, r4⟩ := cells_5 (blk_below ZLZI.out hb2))
        | (go_at_call 31; (with_reducible refine (hM _ _ _ VZLI.out NZLI.out MZLI.out).mono ?_); rintro e w2 ⟨hb2, A3, c3, A4, c4, rfl⟩; have hbd := below_step VZLI.out hb2; obtain ⟨q0, q1, q2, q3, q4, r0, r1, r2, r3, r4⟩ := cells_5 (blk_below ZZLI.out hb2))
        | (go_at_call 31; (with_reducible refine (hM _ _ _ VILZ.out NILZ.out MILZ.out).mono ?_); rintro e w2 ⟨hb2, A3, c3, A4, c4, rfl⟩; have hbd := below_step VILZ.out hb2; obtain ⟨q0, q1, q2, q3, q4, r0, r1, r2, r3, r4⟩ := cells_5 (blk_below ZILZ.out hb2))
        | (go_at_call 31; (with_reducible refine (hM _ _ _ VIZL.out NIZL.out MIZL.out).mono ?_); rintro e w2 ⟨hb2, A3, c3, A4, c4, rfl⟩; have hbd := below_step VIZL.out hb2; obtain ⟨q0, q1, q2, q3, q4, r0, r1, r2, r3, r4⟩ := cells_5 (blk_below ZIZL.out hb2))
        | (go_at_call 31; (with_reducible refine (hM _ _ _ VZIL.out NZIL.out MZIL.out).mono ?_); rintro e w2 ⟨hb2, A3, c3, A4, c4, rfl⟩; have hbd := below_step VZIL.out hb2; obtain ⟨q0, q1, q2, q3, q4, r0, r1, r2, r3, r4⟩ := cells_5 (blk_below ZZIL.out hb2)))
    all_goals
      (go_wp2_with fail)
      go_meet
      first
        | with_reducible exact lv_new HI3.out hbd
        | with_reducible exact lv_old HI3.out VLIZ.out hb2 ZLIZ.out (Nat.le_succ_of_le (Nat.le_succ _))
        | with_reducible exact lv_old HI3.out VLZI.out hb2 ZLZI.out (Nat.le_succ _)
        | with_reducible exact lv_old HI3.out VZLI.out hb2 ZZLI.out (Nat.le_refl _)
        | with_reducible exact lv_old HI3.out VILZ.out hb2 ZILZ.out (Nat.le_succ_of_le (Nat.le_succ _))
        | with_reducible exact lv_old HI3.out VIZL.out hb2 ZIZL.out (Nat.le_succ _)
        | with_reducible exact lv_old HI3.out VZIL.out hb2 ZZIL.out (Nat.le_refl _)
  case rest =>
    clear hM KP VLI VIL VLIZ VLZI VZLI VILZ VIZL VZIL NLI MLI NIL MIL NLIZ MLIZ ZLIZ NLZI MLZI ZLZI NZLI MZLI ZZLI NILZ MILZ ZILZ NIZL MIZL ZIZL NZIL MZIL ZZIL y0 y1 y2 y3 y4 y5 x0 x1 x2 x3 x4
    obtain ⟨b9, rfl, rfl, hk9, -, hI, -⟩ := hcut
    rename World => W4
    have HI4 := Aside0.mk hI
    have HK9 := Aside0.mk hk9
    clear hI hk9 HI3
    go_upto_region 7 with (fail)
    have hM : ∀ (V : World) (n m : Nat), Below W4.heap.size W4 V → V.heap[n]? = some (.cells #[.string ⟨#[116, 104, 105, 115]⟩] 9 (0, 0)) → V.heap[m]? = some oI → Calls Tryz.prog 31 #[.slice (some ⟨n, 0, none⟩) 1 1, aV s, .slice (some ⟨m, 0, none⟩) 1 1] V fun e w' => Below V.heap.size V w' ∧ ∃ A3 c3 A4 c4, e = .returned (.tuple #[.agg #[.int .u8 2, .string ⟨#[]⟩, .int .i64 1, .slice A3 0 c3, .slice A4 0 c4], .int .i64 0]) := lv_means HI4.out [116, 104, 105, 115] (by decide) it0 meansT
    have KP : Aside0 (∀ w' : World, Below W4.heap.size W4 w' → w'.cell? ⟨s + 1 + 1 + 1 + 1, 0, none⟩ = some (.int .u8 5) ∧ w'.cell? ⟨s + 1 + 1 + 1 + 1, 1, none⟩ = some (.string ⟨#[]⟩) ∧ w'.cell? ⟨s + 1 + 1 + 1 + 1, 2, none⟩ = some (.int .i64 0) ∧ w'.cell? ⟨s + 1 + 1 + 1 + 1, 3, none⟩ = some (.slice (some ⟨s + 1 + 1 + 1, 0, none⟩) 2 2) ∧ w'.cell? ⟨s + 1 + 1 + 1 + 1, 4, none⟩ = some (.slice (some ⟨s + 1 + 1, 0, none⟩) 2 2) ∧ w'.cell? ⟨s + 1, 3, none⟩ = some (.slice (some ⟨s, 0, none⟩) 2 2) ∧ w'.cell? ⟨s, 0, none⟩ = some (.int .u8 2) ∧ w'.cell? ⟨s, 1, none⟩ = some (.string ⟨#[]⟩) ∧ w'.cell? ⟨s, 2, none⟩ = some (.int .i64 1) ∧ w'.cell? ⟨s, 3, none⟩ = some (.slice none 0 0) ∧ w'.cell? ⟨s, 4, none⟩ = some (.slice none 0 0)) :=
      ⟨fun w' hb => ⟨(blk_cell (HI4.out.below hb).b2 0).trans rfl, (blk_cell (HI4.out.below hb).b2 1).trans rfl, (blk_cell (HI4.out.below hb).b2 2).trans rfl, (blk_cell (HI4.out.below hb).b2 3).trans rfl, (blk_cell (HI4.out.below hb).b2 4).trans rfl, (blk_cell (HI4.out.below hb).b1 3).trans rfl, (blk_cell (HI4.out.below hb).bL 0).trans rfl, (blk_cell (HI4.out.below hb).bL 1).trans rfl, (blk_cell (HI4.out.below hb).bL 2).trans rfl, (blk_cell (HI4.out.below hb).bL 3).trans rfl, (blk_cell (HI4.out.below hb).bL 4).trans rfl⟩⟩
    obtain ⟨y0, y1, y2, y3, y4, y5, x0, x1, x2, x3, x4⟩ := KP.out W4 (Below.refl _ _)
    have VLI : Aside0 (Below W4.heap.size W4 ((W4.alloc (.cells #[.string ⟨#[116, 104, 105, 115]⟩] 9 (0, 0))).alloc oI).drew) := ⟨below_drew (below_alloc (below_alloc (Below.refl _ _) _) _)⟩
    have NLI : Aside0 (((W4.alloc (.cells #[.string ⟨#[116, 104, 105, 115]⟩] 9 (0, 0))).alloc oI).drew.heap[W4.heap.size]? = some (.cells #[.string ⟨#[116, 104, 105, 115]⟩] 9 (0, 0))) := ⟨by refine blk_drew ?_; repeat (first | (with_reducible refine blk_drew ?_) | exact blk_new_at (by simp only [World.size_alloc, World.size_drew]) | (with_reducible refine blk_alloc ?_ _))⟩
    have MLI : Aside0 (((W4.alloc (.cells #[.string ⟨#[116, 104, 105, 115]⟩] 9 (0, 0))).alloc oI).drew.heap[W4.heap.size + 1]? = some oI) := ⟨by refine blk_drew ?_; repeat (first | (with_reducible refine blk_drew ?_) | exact blk_new_at (by simp only [World.size_alloc, World.size_drew]) | (with_reducible refine blk_alloc ?_ _))⟩
    have VIL : Aside0 (Below W4.heap.size W4 ((W4.alloc oI).alloc (.cells #[.string ⟨#[116, 104, 105, 115]⟩] 9 (0, 0))).drew) := ⟨below_drew (below_alloc (below_alloc (Below.refl _ _) _) _)⟩
    have MIL : Aside0 (((W4.alloc oI).alloc (.cells #[.string ⟨#[116, 104, 105, 115]⟩] 9 (0, 0))).drew.heap[W4.heap.size]? = some oI) := ⟨by refine blk_drew ?_; repeat (first | (with_reducible refine blk_drew ?_) | exact blk_new_at (by simp only [World.size_alloc, World.size_drew]) | (with_reducible refine blk_alloc ?_ _))⟩
    have NIL : Aside0 (((W4.alloc oI).alloc (.cells #[.string ⟨#[116, 104, 105, 115]⟩] 9 (0, 0))).drew.heap[W4.heap.size + 1]? = some (.cells #[.string ⟨#[116, 104, 105, 115]⟩] 9 (0, 0))) := ⟨by refine blk_drew ?_; repeat (first | (with_reducible refine blk_drew ?_) | exact blk_new_at (by simp only [World.size_alloc, World.size_drew]) | (with_reducible refine blk_alloc ?_ _))⟩
    have VLIZ : Aside0 (Below W4.heap.size W4 (((W4.alloc (.cells #[.string ⟨#[116, 104, 105, 115]⟩] 9 (0, 0))).alloc oI).alloc zBox).drew) := ⟨below_drew (below_alloc (below_alloc (below_alloc (Below.refl _ _) _) _) _)⟩
    have NLIZ : Aside0 ((((W4.alloc (.cells #[.string ⟨#[116, 104, 105, 115]⟩] 9 (0, 0))).alloc oI).alloc zBox).drew.heap[W4.heap.size]? = some (.cells #[.string ⟨#[116, 104, 105, 115]⟩] 9 (0, 0))) := ⟨by refine blk_drew ?_; repeat (first | (with_reducible refine blk_drew ?_) | exact blk_new_at (by simp only [World.size_alloc, World.size_drew]) | (with_reducible refine blk_alloc ?_ _))⟩
    have MLIZ : Aside0 ((((W4.alloc (.cells #[.string ⟨#[116, 104, 105, 115]⟩] 9 (0, 0))).alloc oI).alloc zBox).drew.heap[W4.heap.size + 1]? = some oI) := ⟨by refine blk_drew ?_; repeat (first | (with_reducible refine blk_drew ?_) | exact blk_new_at (by simp only [World.size_alloc, World.size_drew]) | (with_reducible refine blk_alloc ?_ _))⟩
    have ZLIZ : Aside0 ((((W4.alloc (.cells #[.string ⟨#[116, 104, 105, 115]⟩] 9 (0, 0))).alloc oI).alloc zBox).drew.heap[W4.heap.size + 1 + 1]? = some zObj) := ⟨by refine blk_drew ?_; repeat (first | (with_reducible refine blk_drew ?_) | exact blk_new_at (by simp only [World.size_alloc, World.size_drew]) | (with_reducible refine blk_alloc ?_ _))⟩
    have VLZI : Aside0 (Below W4.heap.size W4 (((W4.alloc (.cells #[.string ⟨#[116, 104, 105, 115]⟩] 9 (0, 0))).alloc zBox).alloc oI).drew) := ⟨below_drew (below_alloc (below_alloc (below_alloc (Below.refl _ _) _) _) _)⟩
    have NLZI : Aside0 ((((W4.alloc (.cells #[.string ⟨#[116, 104, 105, 115]⟩] 9 (0, 0))).alloc zBox).alloc oI).drew.heap[W4.heap.size]? = some (.cells #[.string ⟨#[116, 104, 105, 115]⟩] 9 (0, 0))) := ⟨by refine blk_drew ?_; repeat (first | (with_reducible refine blk_drew ?_) | exact blk_new_at (by simp only [World.size_alloc, World.size_drew]) | (with_reducible refine blk_alloc ?_ _))⟩
    have ZLZI : Aside0 ((((W4.alloc (.cells #[.string ⟨#[116, 104, 105, 115]⟩] 9 (0, 0))).alloc zBox).alloc oI).drew.heap[W4.heap.size + 1]? = some zObj) := ⟨by refine blk_drew ?_; repeat (first | (with_reducible refine blk_drew ?_) | exact blk_new_at (by simp only [World.size_alloc, World.size_drew]) | (with_reducible refine blk_alloc ?_ _))⟩
    have MLZI : Aside0 ((((W4.alloc (.cells #[.string ⟨#[116, 104, 105, 115]⟩] 9 (0, 0))).alloc zBox).alloc oI).drew.heap[W4.heap.size + 1 + 1]? = some oI) := ⟨by refine blk_drew ?_; repeat (first | (with_reducible refine blk_drew ?_) | exact blk_new_at (by simp only [World.size_alloc, World.size_drew]) | (with_reducible refine blk_alloc ?_ _))⟩
    have VZLI : Aside0 (Below W4.heap.size W4 (((W4.alloc zBox).alloc (.cells #[.string ⟨#[116, 104, 105, 115]⟩] 9 (0, 0))).alloc oI).drew) := ⟨below_drew (below_alloc (below_alloc (below_alloc (Below.refl _ _) _) _) _)⟩
    have ZZLI : Aside0 ((((W4.alloc zBox).alloc (.cells #[.string ⟨#[116, 104, 105, 115]⟩] 9 (0, 0))).alloc oI).drew.heap[W4.heap.size]? = some zObj) := ⟨by refine blk_drew ?_; repeat (first | (with_reducible refine blk_drew ?_) | exact blk_new_at (by simp only [World.size_alloc, World.size_drew]) | (with_reducible refine blk_alloc ?_ _))⟩
    have NZLI : Aside0 ((((W4.alloc zBox).alloc (.cells #[.string ⟨#[116, 104, 105, 115]⟩] 9 (0, 0))).alloc oI).drew.heap[W4.heap.size + 1]? = some (.cells #[.string ⟨#[116, 104, 105, 115]⟩] 9 (0, 0))) := ⟨by refine blk_drew ?_; repeat (first | (with_reducible refine blk_drew ?_) | exact blk_new_at (by simp only [World.size_alloc, World.size_drew]) | (with_reducible refine blk_alloc ?_ _))⟩
    have MZLI : Aside0 ((((W4.alloc zBox).alloc (.cells #[.string ⟨#[116, 104, 105, 115]⟩] 9 (0, 0))).alloc oI).drew.heap[W4.heap.size + 1 + 1]? = some oI) := ⟨by refine blk_drew ?_; repeat (first | (with_reducible refine blk_drew ?_) | exact blk_new_at (by simp only [World.size_alloc, World.size_drew]) | (with_reducible refine blk_alloc ?_ _))⟩
    have VILZ : Aside0 (Below W4.heap.size W4 (((W4.alloc oI).alloc (.cells #[.string ⟨#[116, 104, 105, 115]⟩] 9 (0, 0))).alloc zBox).drew) := ⟨below_drew (below_alloc (below_alloc (below_alloc (Below.refl _ _) _) _) _)⟩
    have MILZ : Aside0 ((((W4.alloc oI).alloc (.cells #[.string ⟨#[116, 104, 105, 115]⟩] 9 (0, 0))).alloc zBox).drew.heap[W4.heap.size]? = some oI) := ⟨by refine blk_drew ?_; repeat (first | (with_reducible refine blk_drew ?_) | exact blk_new_at (by simp only [World.size_alloc, World.size_drew]) | (with_reducible refine blk_alloc ?_ _))⟩
    have NILZ : Aside0 ((((W4.alloc oI).alloc (.cells #[.string ⟨#[116, 104, 105, 115]⟩] 9 (0, 0))).alloc zBox).drew.heap[W4.heap.size + 1]? = some (.cells #[.string ⟨#[116, 104, 105, 115]⟩] 9 (0, 0))) := ⟨by refine blk_drew ?_; repeat (first | (with_reducible refine blk_drew ?_) | exact blk_new_at (by simp only [World.size_alloc, World.size_drew]) | (with_reducible refine blk_alloc ?_ _))⟩
    have ZILZ : Aside0 ((((W4.alloc oI).alloc (.cells #[.string ⟨#[116, 104, 105, 115]⟩] 9 (0, 0))).alloc zBox).drew.heap[W4.heap.size + 1 + 1]? = some zObj) := ⟨by refine blk_drew ?_; repeat (first | (with_reducible refine blk_drew ?_) | exact blk_new_at (by simp only [World.size_alloc, World.size_drew]) | (with_reducible refine blk_alloc ?_ _))⟩
    have VIZL : Aside0 (Below W4.heap.size W4 (((W4.alloc oI).alloc zBox).alloc (.cells #[.string ⟨#[116, 104, 105, 115]⟩] 9 (0, 0))).drew) := ⟨below_drew (below_alloc (below_alloc (below_alloc (Below.refl _ _) _) _) _)⟩
    have MIZL : Aside0 ((((W4.alloc oI).alloc zBox).alloc (.cells #[.string ⟨#[116, 104, 105, 115]⟩] 9 (0, 0))).drew.heap[W4.heap.size]? = some oI) := ⟨by refine blk_drew ?_; repeat (first | (with_reducible refine blk_drew ?_) | exact blk_new_at (by simp only [World.size_alloc, World.size_drew]) | (with_reducible refine blk_alloc ?_ _))⟩
    have ZIZL : Aside0 ((((W4.alloc oI).alloc zBox).alloc (.cells #[.string ⟨#[116, 104, 105, 115]⟩] 9 (0, 0))).drew.heap[W4.heap.size + 1]? = some zObj) := ⟨by refine blk_drew ?_; repeat (first | (with_reducible refine blk_drew ?_) | exact blk_new_at (by simp only [World.size_alloc, World.size_drew]) | (with_reducible refine blk_alloc ?_ _))⟩
    have NIZL : Aside0 ((((W4.alloc oI).alloc zBox).alloc (.cells #[.string ⟨#[116, 104, 105, 115]⟩] 9 (0, 0))).drew.heap[W4.heap.size + 1 + 1]? = some (.cells #[.string ⟨#[116, 104, 105, 115]⟩] 9 (0, 0))) := ⟨by refine blk_drew ?_; repeat (first | (with_reducible refine blk_drew ?_) | exact blk_new_at (by simp only [World.size_alloc, World.size_drew]) | (with_reducible refine blk_alloc ?_ _))⟩
    have VZIL : Aside0 (Below W4.heap.size W4 (((W4.alloc zBox).alloc oI).alloc (.cells #[.string ⟨#[116, 104, 105, 115]⟩] 9 (0, 0))).drew) := ⟨below_drew (below_alloc (below_alloc (below_alloc (Below.refl _ _) _) _) _)⟩
    have ZZIL : Aside0 ((((W4.alloc zBox).alloc oI).alloc (.cells #[.string ⟨#[116, 104, 105, 115]⟩] 9 (0, 0))).drew.heap[W4.heap.size]? = some zObj) := ⟨by refine blk_drew ?_; repeat (first | (with_reducible refine blk_drew ?_) | exact blk_new_at (by simp only [World.size_alloc, World.size_drew]) | (with_reducible refine blk_alloc ?_ _))⟩
    have MZIL : Aside0 ((((W4.alloc zBox).alloc oI).alloc (.cells #[.string ⟨#[116, 104, 105, 115]⟩] 9 (0, 0))).drew.heap[W4.heap.size + 1]? = some oI) := ⟨by refine blk_drew ?_; repeat (first | (with_reducible refine blk_drew ?_) | exact blk_new_at (by simp only [World.size_alloc, World.size_drew]) | (with_reducible refine blk_alloc ?_ _))⟩
    have NZIL : Aside0 ((((W4.alloc zBox).alloc oI).alloc (.cells #[.string ⟨#[116, 104, 105, 115]⟩] 9 (0, 0))).drew.heap[W4.heap.size + 1 + 1]? = some (.cells #[.string ⟨#[116, 104, 105, 115]⟩] 9 (0, 0))) := ⟨by refine blk_drew ?_; repeat (first | (with_reducible refine blk_drew ?_) | exact blk_new_at (by simp only [World.size_alloc, World.size_drew]) | (with_reducible refine blk_alloc ?_ _))⟩
    go_cut [11, 12] (fun s9 s10 wx => LvMid w s W4 2 1 s9 s10 wx)
    case first =>
      go_region_held3 (fun w' => w'.cell? ⟨s + 1 + 1 + 1 + 1, 0, none⟩ = some (.int .u8 5) ∧ w'.cell? ⟨s + 1 + 1 + 1 + 1, 1, none⟩ = some (.string ⟨#[]⟩) ∧ w'.cell? ⟨s + 1 + 1 + 1 + 1, 2, none⟩ = some (.int .i64 0) ∧ w'.cell? ⟨s + 1 + 1 + 1 + 1, 3, none⟩ = some (.slice (some ⟨s + 1 + 1 + 1, 0, none⟩) 2 2) ∧ w'.cell? ⟨s + 1 + 1 + 1 + 1, 4, none⟩ = some (.slice (some ⟨s + 1 + 1, 0, none⟩) 2 2) ∧ w'.cell? ⟨s + 1, 3, none⟩ = some (.slice (some ⟨s, 0, none⟩) 2 2) ∧ w'.cell? ⟨s, 0, none⟩ = some (.int .u8 2) ∧ w'.cell? ⟨s, 1, none⟩ = some (.string ⟨#[]⟩) ∧ w'.cell? ⟨s, 2, none⟩ = some (.int .i64 1) ∧ w'.cell? ⟨s, 3, none⟩ = some (.slice none 0 0) ∧ w'.cell? ⟨s, 4, none⟩ = some (.slice none 0 0))
        (first
          | with_reducible exact KP.out _ (put5_below hbd (Nat.le_refl _))
          | with_reducible exact KP.out _ (put5_below hbd (Nat.le_succ _))
          | with_reducible exact KP.out _ (put5_below hbd (Nat.le_succ_of_le (Nat.le_succ _)))
          | with_reducible exact KP.out _ (by repeat first | exact hbd | exact Below.refl _ _ | refine below_drew ?_ | refine below_alloc ?_ _))
        (first
          | (go_at_call 31; (with_reducible refine (hM _ _ _ VLI.out NLI.out MLI.out).mono ?_); rintro e w2 ⟨hb2, A3, c3, A4, c4, rfl⟩; have hbd := below_step VLI.out hb2)
          | (go_at_call 31; (with_reducible refine (hM _ _ _ VIL.out NIL.out MIL.out).mono ?_); rintro e w2 ⟨hb2, A3, c3, A4, c4, rfl⟩; have hbd := below_step VIL.out hb2)
          | (go_at_call 31; (with_reducible refine (hM _ _ _ VLIZ.out NLIZ.out MLIZ.out).mono ?_); rintro e w2 ⟨hb2, A3, c3, A4, c4, rfl⟩; have hbd := below_step VLIZ.out hb2; obtain ⟨q0, q1, q2, q3, q4, r0, r1, r2, r3, r4⟩ := cells_5 (blk_below ZLIZ.out hb2))
          | (go_at_call 31; (with_reducible refine (hM _ _ _ VLZI.out NLZI.out MLZI.out).mono ?_); rintro e w2 ⟨hb2, A3, c3, A4, c4, rfl⟩; have hbd := below_step VLZI.out hb2; obtain ⟨q0, q1, q2, q3, q4, r0, r1, r2, r3, r4⟩ := cells_5 (blk_below ZLZI.out hb2))
          | (go_at_call 31; (with_reducible refine (hM _ _ _ VZLI.out NZLI.out MZLI.out).mono ?_); rintro e w2 ⟨hb2, A3, c3, A4, c4, rfl⟩; have hbd := below_step VZLI.out hb2; obtain ⟨q0, q1, q2, q3, q4, r0, r1, r2, r3, r4⟩ := cells_5 (blk_below ZZLI.out hb2))
          | (go_at_call 31; (with_reducible refine (hM _ _ _ VILZ.out NILZ.out MILZ.out).mono ?_); rintro e w2 ⟨hb2, A3, c3, A4, c4, rfl⟩; have hbd := below_step VILZ.out hb2; obtain ⟨q0, q1, q2, q3, q4, r0, r1, r2, r3, r4⟩ := cells_5 (blk_below ZILZ.out hb2))
          | (go_at_call 31; (with_reducible refine (hM _ _ _ VIZL.out NIZL.out MIZL.out).mono ?_); rintro e w2 ⟨hb2, A3, c3, A4, c4, rfl⟩; have hbd := below_step VIZL.out hb2; obtain ⟨q0, q1, q2, q3, q4, r0, r1, r2, r3, r4⟩ := cells_5 (blk_below ZIZL.out hb2))
          | (go_at_call 31; (with_reducible refine (hM _ _ _ VZIL.out NZIL.out MZIL.out).mono ?_); rintro e w2 ⟨hb2, A3, c3, A4, c4, rfl⟩; have hbd := below_step VZIL.out hb2; obtain ⟨q0, q1, q2, q3, q4, r0, r1, r2, r3, r4⟩ := cells_5 (blk_below ZZIL.out hb2)))
      all_goals
        (go_wp2_with fail)
        go_meet
        first
          | with_reducible exact lv_new HI4.out hbd
          | with_reducible exact lv_old HI4.out VLIZ.out hb2 ZLIZ.out (Nat.le_succ_of_le (Nat.le_succ _))
          | with_reducible exact lv_old HI4.out VLZI.out hb2 ZLZI.out (Nat.le_succ _)
          | with_reducible exact lv_old HI4.out VZLI.out hb2 ZZLI.out (Nat.le_refl _)
          | with_reducible exact lv_old HI4.out VILZ.out hb2 ZILZ.out (Nat.le_succ_of_le (Nat.le_succ _))
          | with_reducible exact lv_old HI4.out VIZL.out hb2 ZIZL.out (Nat.le_succ _)
          | with_reducible exact lv_old HI4.out VZIL.out hb2 ZZIL.out (Nat.le_refl _)
    case rest =>
      clear hM KP VLI VIL VLIZ VLZI VZLI VILZ VIZL VZIL NLI MLI NIL MIL NLIZ MLIZ ZLIZ NLZI MLZI ZLZI NZLI MZLI ZZLI NILZ MILZ ZILZ NIZL MIZL ZIZL NZIL MZIL ZZIL y0 y1 y2 y3 y4 y5 x0 x1 x2 x3 x4
      obtain ⟨b11, rfl, rfl, -, hk11, hI, hb⟩ := hcut
      rename World => W5
      have HI5 := Aside0.mk hI
      have HK9' := Aside0.mk (pw_cell_below hb HK9.out)
      have HK11 := Aside0.mk hk11
      clear hI hk11 hb HI4 HK9
      obtain ⟨y0, y1, y2, y3, y4, -⟩ := cells_5 HI5.out.b2
      go_upto_region 8 with (fail)
      have hbl := below_alloc (Below.refl W5.heap.size W5) (.cells #[.string ⟨#[116, 104, 105, 115]⟩] 9)
      have h1 := means_any [thisS] (some ⟨W5.heap.size, 0, none⟩) 1 valV _ _ _ _ .nil none 0 (W5.alloc (.cells #[.string ⟨#[116, 104, 105, 115]⟩] 9)) (lit_at (blk_new W5 _)) (by simp) valV_fit (HI5.out.below hbl).rd trivial (by decide) (by decide) (rdV_nil _)
      rw [meansO] at h1
      have HI5' := Aside0.mk (HI5.out.below hbl)
      have HB5' := Aside0.mk hbl
      clear hbl y0 y1 y2 y3 y4
      obtain ⟨y0, y1, y2, y3, y4, -⟩ := cells_5 HI5'.out.b2
      go_wp2_with fail
      refine h1.mono ?_
      rintro e W6 ⟨hb, rfl⟩
      have hba := below_alloc (Below.refl W6.heap.size W6) zBox
      have HI6 := Aside0.mk ((HI5'.out.below hb).below hba)
      have HB6 := Aside0.mk (below_step HB5'.out (below_step hb hba))
      clear h1 hb hba HI5 HI5' HB5' y0 y1 y2 y3 y4
      go_upto_region 9 with (fail)
      generalize W6.alloc zBox = W7 at HI6 HB6 ⊢
      have h1 := fill_any .nil none 0 Val.zero none 0 none 0 1 W7 (HG.out.below HI6.out.bel) trivial (by decide) (by decide) ⟨Kd.C_nil _ _, Nat.le_refl _⟩ ⟨⟨by decide, by decide, ⟨by decide, by decide⟩, by decide, by decide, by simp [Val.zero], trivial, trivial⟩, by decide⟩ ⟨rdV_nil _, rdS_nil _⟩
      rw [fillZ] at h1
      go_wp2_with fail
      refine h1.mono ?_
      rintro e W8 ⟨hb, rfl⟩
      have HI8 := Aside0.mk (HI6.out.below hb)
      have HB8 := Aside0.mk (below_step HB6.out hb)
      clear h1 hb HI6 HB6
      obtain ⟨y0, y1, y2, y3, y4, -⟩ := cells_5 HI8.out.b2
      have hT := text_any srcL (by decide) poL valV _ _ _ _ 3 W8 (HG.out.below HI8.out.bel) valV_fit HI8.out.rd
      rw [textL] at hT
      go_wp2_with fail
      refine hT.mono ?_
      rintro e W9 ⟨hb, rfl⟩
      have HI9 := Aside0.mk (HI8.out.below hb)
      have hB9 := below_step HB8.out hb
      have c9 := pw_cell_below hB9 HK9'.out
      have c11 := pw_cell_below hB9 HK11.out
      clear hT hb HI8 HB8 hB9 y0 y1 y2 y3 y4
      have e1 : ((bs [49, 44, 38, 108, 116, 59, 44, 60, 121]).toList == [49, 44, 38, 108, 116, 59, 44, 60, 121]) = true := by rw [bs_list]; rfl
      have e2 : ((bs [97, 50]).toList == [97, 50]) = true := by rw [bs_list]; rfl
      go_wp2
      go_ret
      exact ⟨rfl, HI9.out.bel⟩
end Go.Proofs.YtniibpndgcndbaaGreatDoor.Tpl
namespace Go.Proofs.YtniibpndgcndbaaGreatDoor.Tpl
open Go.RowKit Go.Proofs Go.Proofs.YtniibpndgcndbaaGreatDoor.PB Go.Proofs.YtniibpndgcndbaaGreatDoor.Short Go.Proofs.YtniibpndgcndbaaGreatDoorW.PrintWords Go.Proofs.YtniibpndgcndbaaGreatDoorW.PrintLast Go.Proofs.YtniibpndgcndbaaGreatDoorW.PrintMore Nodes
theorem nodesP_err {l : List Tok} {k : Int} (h : nodesP l = .error k) : k ≠ 0 := by
  unfold nodesP at h
  split at h
  · cases h; decide
  cases h1 : parse l with
  | none => rw [h1] at h; cases h; decide
  | some x =>
    obtain ⟨n, r⟩ := x
    rw [h1] at h
    simp only at h
    split at h
    · cases h; decide
    · split at h
      · cases h
      · cases h; decide
theorem parseS_err {s : S} {k : Int} (h : parseS s = .error k) : k ≠ 0 := by
  unfold parseS at h
  split at h
  · cases h; decide
  cases h1 : toksS (s.length + 1) s with
  | none => rw [h1] at h; cases h; decide
  | some l => rw [h1] at h; exact nodesP_err h
theorem parse_uni {s : S} {w w' : World} {e : Ending} (h : PRet (parseS s) w e w') : Below w.heap.size w w' ∧ ∃ nd y A c, e = .returned (.tuple #[.slice A (Nodes.len nd) c, .int .i64 y]) ∧ Rd w' A c nd ∧ nd.sm ∧ nd.len ≤ 1048576 ∧ nd.cnt ≤ 1048576 ∧ (y = 0 → parseS s = .ok nd) := by
  obtain ⟨hb, h⟩ := h
  refine ⟨hb, ?_⟩
  cases hp : parseS s with
  | error k =>
    rw [hp] at h
    exact ⟨.nil, k, none, 0, h, ⟨⟨rfl, Nat.zero_le _, fun h => absurd h (Nat.lt_irrefl 0)⟩, Nat.le_refl _⟩, trivial, by decide, by decide, fun h => absurd h (parseS_err hp)⟩
  | ok nd =>
    rw [hp] at h
    obtain ⟨A, c, he, _, hR⟩ := h
    obtain ⟨_, h1, h2, h3⟩ := parseS_ok hp
    exact ⟨nd, 0, A, c, he, hR, h1, h2, h3, fun _ => rfl⟩
set_option maxHeartbeats 2000000 in
set_option maxRecDepth 100000 in
theorem plain_walk (a : ByteArray) (v : Val) (A3 : Option Addr) (c3 : Nat) (A4 : Option Addr) (c4 : Nat) (w : World) (hG : GlobR w) (ha : a.size ≤ 1048576) (hv : v.fit) (hV : RdV w v A3 c3 A4 c4) :
    Calls Tryz.prog 11 #[.string a, vAgg v A3 c3 A4 c4] w fun e w' => e = .returned (.bool true) ∧ Below w.heap.size w w' := by
  obtain ⟨s, rfl⟩ : ∃ s, bs s = a := ⟨a.data.toList, by cases a; simp [bs]⟩
  rw [bs_size] at ha
  have hb1 := below_alloc (Below.refl w.heap.size w) (vObj v.k v.t v.n v.i v.m A3 c3 A4 c4)
  have BK1 := blk_new w (vObj v.k v.t v.n v.i v.m A3 c3 A4 c4)
  have HG := Aside0.mk (hG.below hb1)
  have HV := Aside0.mk (hV.below hb1)
  have HB1 := Aside0.mk hb1
  have HF := Aside0.mk hv
  clear hG hV hb1 hv
  go_enter Tryz.func11, Tryz.ntmps11
  go_upto_region 1 with (fail)
  generalize w.alloc (vObj v.k v.t v.n v.i v.m A3 c3 A4 c4) = W at BK1 HG HV HB1 ⊢
  generalize w.heap.size = b1 at BK1 ⊢
  go_wp2_with fail
  refine (lives14_any W HG.out).mono ?_
  rintro e W1 ⟨rfl, hb⟩
  have HB2 := Aside0.mk (below_step HB1.out hb)
  have BK2 := Aside0.mk (blk_below BK1 hb)
  have HG2 := Aside0.mk (HG.out.below hb)
  have HV2 := Aside0.mk (HV.out.below hb)
  have hpa := parse_any s ha W1 HG2.out.glob
  clear hb BK1 HG HV HB1
  go_wp2_with fail
  refine hpa.mono ?_
  rintro e W2 hret
  obtain ⟨hb, nd, y, A, c, rfl, hR, hs, hl, hc, hy⟩ := parse_uni hret
  have HB3 := Aside0.mk (below_step HB2.out hb)
  have BK3 := Aside0.mk (blk_below BK2.out hb)
  have HG3 := Aside0.mk (HG2.out.below hb)
  have HV3 := Aside0.mk (HV2.out.below hb)
  have HR3 := Aside0.mk hR
  have HY := Aside0.mk hy
  have HS := Aside0.mk hs
  have hpt := paths_any nd A c W2 HG3.out.glob hs hR hl hc
  obtain ⟨r, hr⟩ : ∃ r : Int, (if nd.chk = true then 0 else 2) = r := ⟨_, rfl⟩
  rw [hr] at hpt
  have HRC : Aside0 (r = 0 → nd.chk = true) := ⟨fun h => by
    cases hk : nd.chk with
    | true => rfl
    | false => rw [hk, h] at hr; cases hr⟩
  clear hpa hret hb hR hy hs hr HB2 BK2 HG2 HV2
  go_wp2_with fail
  refine hpt.mono ?_
  rintro e W3 ⟨Ap, n, cp, rfl, hn, hb⟩
  have HB4 := Aside0.mk (below_step HB3.out hb)
  have HG4 := Aside0.mk (HG3.out.below hb)
  have HV4 := Aside0.mk (HV3.out.below hb)
  have HR4 := Aside0.mk (HR3.out.below hb)
  have HN := Aside0.mk hn
  have BK4 := Aside0.mk (blk_below BK3.out hb)
  obtain ⟨y0, y1, y2, y3, y4, -⟩ := cells_5 BK4.out
  clear hpt hn hb HB3 BK3 HG3 HV3 HR3
  have hck := vchk_any v.k v.t v.n v.i v.m A3 c3 A4 c4 W3 HF.out.1 HV4.out.1 HV4.out.2 HF.out.2
  by_cases hy0 : y = 0
  · subst hy0
    have hp := HY.out rfl
    by_cases hr0 : r = 0
    · subst hr0
      have hch := HRC.out rfl
      by_cases hn0 : n = 0
      · subst hn0
        have hpp := (HN.out hch).1 rfl
        have HPF := Aside0.mk (fun (h : v.ok = true) => plain_fill escT (v := v) hp hpp hch h)
        have hvk : chkV v.k v.t v.n v.i v.m = v.ok := rfl
        rw [hvk] at hck
        clear hvk hp hch hpp
        go_wp2_with fail
        refine hck.mono ?_
        rintro e W4 ⟨rfl, hb⟩
        have HB5 := Aside0.mk (below_step HB4.out hb)
        have HG5 := Aside0.mk (HG4.out.below hb)
        have HV5 := Aside0.mk (HV4.out.below hb)
        have HR5 := Aside0.mk (HR4.out.below hb)
        obtain ⟨z0, z1, z2, z3, z4, -⟩ := cells_5 (blk_below BK4.out hb)
        clear hck hb y0 y1 y2 y3 y4 HB4 HG4 HV4 HR4 BK4
        cases hok : v.ok with
        | false =>
          clear hok
          go_wp2
          go_ret
          exact ⟨rfl, HB5.out⟩
        | true =>
          have hfl := fill_any nd A c v A3 c3 A4 c4 2 W4 HG5.out HS.out hl hc HR5.out HF.out HV5.out
          rw [HPF.out hok] at hfl
          clear hok
          go_wp2_with fail
          refine hfl.mono ?_
          rintro e W5 ⟨hb, he⟩
          have he : e = .returned (.tuple #[.string (bs s), .int .i64 0]) := he
          subst he
          have HB6 := Aside0.mk (below_step HB5.out hb)
          clear hfl hb
          go_wp2
          go_ret
          exact ⟨rfl, HB6.out⟩
      · have hd : decide ((0 : Int) < (n : Int)) = true := by rw [decide_eq_true_eq]; omega
        clear hck
        go_wp2
        go_ret
        exact ⟨rfl, HB4.out⟩
    · have hr1 : (r == 0) = false := beq_eq_false_iff_ne.2 hr0
      clear hck
      go_wp2
      go_ret
      exact ⟨rfl, HB4.out⟩
  · have hy1 : (y == 0) = false := beq_eq_false_iff_ne.2 hy0
    clear hck
    go_wp2
    go_ret
    exact ⟨rfl, HB4.out⟩
end Go.Proofs.YtniibpndgcndbaaGreatDoor.Tpl
namespace Go.Proofs.YtniibpndgcndbaaGreatDoor.Tpl
open Go.RowKit Go.ChangeShapes Go.WideShapes Go.Proofs.YtniibpndgcndbaaGreatDoor.PB Go.Proofs.YtniibpndgcndbaaGreatDoorW.PrintWords
section
variable {H : Type} {enc : TypeId × Value → H} {W : World}
theorem bulk_strs (ss : List ByteArray) : (ss.length ≤ Rows.uptoBulkAll (strs (H := H) ss)) ∧ ∀ s ∈ ss, s.size ≤ Rows.uptoBulkAll (strs (H := H) ss) := by
  induction ss with
  | nil => exact ⟨Nat.zero_le _, fun _ h => by cases h⟩
  | cons s ss ih =>
    have e : Rows.uptoBulkAll (strs (H := H) (s :: ss)) = (s.size + 1) + Rows.uptoBulkAll (strs (H := H) ss) := by
      show Rows.uptoBulkAll (DataW.lit (.string s.data.toList) :: strs ss) = _
      simp only [Rows.uptoBulkAll, Rows.uptoBulk, Array.length_toList]
      rfl
    rw [e]
    refine ⟨by simp only [List.length_cons]; omega, fun x hx => ?_⟩
    rcases List.mem_cons.1 hx with rfl | hx
    · omega
    · have := ih.2 x hx; omega
theorem cells_strs : Tryz.prog.cellsOf 9 = 1 := by kernel_rfl
theorem cells_node : Tryz.prog.cellsOf 37 = 5 := by kernel_rfl
theorem cells_kind : Tryz.prog.cellsOf 35 = 1 := by kernel_rfl
theorem cells_names : Tryz.prog.cellsOf 23 = 1 := by kernel_rfl
theorem cells_nodes : Tryz.prog.cellsOf 22 = 1 := by kernel_rfl
theorem under_kind : Tryz.prog.underlying 35 = some (.int .u8) := by kernel_rfl
theorem bs_toList (s : ByteArray) : bs s.data.toList = s := by cases s; simp [bs]
theorem open_names {fuel : Nat} {cs : List Value} {x : DataW H × List MemPlace} (h : DataW.trod enc Tryz.prog W 0 (fun _ => true) true fuel 23 cs = some x) :
    ∃ A c names, cs = [.slice A names.length c] ∧ RdS W A c names ∧ names.length ≤ Rows.uptoBulk x.1 ∧ ∀ s ∈ names, s.length ≤ Rows.uptoBulk x.1 := by
  rcases open_strings Tryz.underlying23 Tryz.underlying9 cells_strs h with ⟨rfl, rfl⟩ | ⟨a, len, cap, ss, rfl, _, hl, hm, hz, rfl, hcell, hsz⟩
  · exact ⟨none, 0, [], rfl, ⟨⟨rfl, Nat.zero_le _, fun h => absurd h (by simp)⟩, Nat.le_refl _⟩, Nat.zero_le _, fun _ h => by cases h⟩
  · have hz' : ss.length = cap := by simpa using hz
    have hlen : (ss.take len).length = len := by simp; omega
    obtain ⟨b1, b2⟩ := bulk_strs (H := H) (ss.take len)
    have hb : Rows.uptoBulkAll (strs (H := H) (ss.take len)) ≤ Rows.uptoBulk (.slice (strs (H := H) (ss.take len)) (strs (ss.drop len))) := by simp only [Rows.uptoBulk]; omega
    have hmap : ((ss.take len).map (fun s => s.data.toList)).map bs = ss.take len := by
      rw [List.map_map]
      conv => rhs; rw [← List.map_id (ss.take len)]
      exact List.map_congr_left fun s _ => bs_toList s
    refine ⟨some a, cap, (ss.take len).map (fun s => s.data.toList), by rw [List.length_map, hlen], ⟨?_, by rw [List.length_map, hlen]; exact hl⟩, by simp only [List.length_map]; omega, ?_⟩
    · rw [hmap]
      refine ⟨by simp, by simp only [List.length_map, hlen]; unfold maxLen at hm; omega, fun _ => ⟨a, rfl, fun j p hp => ⟨[.string p], rfl, rfl, fun i u hu => ?_⟩⟩⟩
      have hj : j < len := by have := (List.getElem?_eq_some_iff.1 hp).1; omega
      obtain ⟨rfl, rfl⟩ : i = 0 ∧ .string p = u := by cases i with | zero => exact ⟨rfl, by simpa using hu⟩ | succ i => simp at hu
      have hc := hcell j (by omega)
      rw [List.getElem?_take, if_pos hj] at hp
      rw [List.getD_eq_getElem?_getD, hp] at hc
      show W.cell? (a.add (j * 1 + 0)) = _
      rw [Nat.mul_one]
      exact hc
    · intro s hs
      obtain ⟨s', hs', rfl⟩ := List.mem_map.1 hs
      have := b2 s' hs'
      show s'.data.toList.length ≤ _
      rw [Array.length_toList]
      exact Nat.le_trans (show s'.data.size ≤ _ from this) hb
theorem five {α : Type} {l : List α} (h : l.length = 5) : ∃ a b c d e, l = [a, b, c, d, e] :=
  match l, h with | [a, b, c, d, e], _ => ⟨a, b, c, d, e, rfl⟩
def Elem (W : World) (ad : Addr) (j : Nat) (y : DataW H) : Prop :=
  ∃ k t p a b, (∃ c, c.length = 5 ∧ kN.K W ⟨(k : Nat), bs t, p.map bs, Nodes.of a, Nodes.of b⟩ c ∧ ∀ i u, c[i]? = some u → W.cell? (ad.add (j * 5 + i)) = some u) ∧
    (Rows.uptoBulk y ≤ 1048576 → (Nodes.cons k t p a b .nil).sm) ∧ 1 + a.cnt + b.cnt ≤ Rows.uptoBulk y
theorem gather {ad : Addr} : ∀ (ys : List (DataW H)) (o : Nat), (∀ j y, ys[j]? = some y → Elem W ad (o + j) y) →
    ∃ l : Nodes, l.len = ys.length ∧ (∀ j x, l.of[j]? = some x → ∃ c, c.length = 5 ∧ kN.K W x c ∧ ∀ i u, c[i]? = some u → W.cell? (ad.add ((o + j) * 5 + i)) = some u) ∧
      (Rows.uptoBulkAll ys ≤ 1048576 → l.sm) ∧ l.cnt ≤ Rows.uptoBulkAll ys := by
  intro ys
  induction ys with
  | nil => exact fun o _ => ⟨.nil, rfl, fun j x h => by simp [Nodes.of] at h, fun _ => trivial, Nat.zero_le _⟩
  | cons y ys ih =>
    intro o h
    obtain ⟨r, h1, h2, h3, h4⟩ := ih (o + 1) (fun j z hz => by have := h (j + 1) z (by simpa using hz); rwa [show o + (j + 1) = o + 1 + j by omega] at this)
    obtain ⟨k, t, p, a, b, hc, hs, hn⟩ := h 0 y rfl
    refine ⟨.cons k t p a b r, by simp [Nodes.len, h1], ?_, ?_, ?_⟩
    · intro j x hx
      cases j with
      | zero =>
        have : (⟨(k : Nat), bs t, p.map bs, Nodes.of a, Nodes.of b⟩ : SN) = x := by simpa [Nodes.of] using hx
        subst this
        exact hc
      | succ j =>
        have := h2 j x (by simpa [Nodes.of] using hx)
        rwa [show o + 1 + j = o + (j + 1) by omega] at this
    · intro hb
      simp only [Rows.uptoBulkAll] at hb
      obtain ⟨g1, g2, g3, g4, g5, g6, g7, g8, _⟩ := hs (by omega)
      exact ⟨g1, g2, g3, g4, g5, g6, g7, g8, h3 (by omega)⟩
    · simp only [Rows.uptoBulkAll, Nodes.cnt]
      omega
theorem cnt_len (l : Nodes) : l.len ≤ l.cnt := by
  induction l with
  | nil => exact Nat.le_refl _
  | cons k t p a b r _ _ ih => simp only [Nodes.len, Nodes.cnt]; omega
theorem open_nodes : ∀ (fuel : Nat) (cs : List Value) (x : DataW H × List MemPlace), DataW.trod enc Tryz.prog W 0 (fun _ => true) true fuel 22 cs = some x →
    ∃ A c l, cs = [.slice A (Nodes.len l) c] ∧ Nodes.Rd W A c l ∧ (Rows.uptoBulk x.1 ≤ 1048576 → l.sm) ∧ l.cnt + 1 ≤ Rows.uptoBulk x.1 := by
  intro fuel
  induction fuel using Nat.strongRecOn with
  | ind fuel ih =>
  intro cs x h
  rcases DataW.trod_slice Tryz.underlying22 h with ⟨rfl, rfl⟩ | ⟨ad, len, cap, elems, rest, n, rfl, rfl, rfl, _, hl, hm, hlen, hel, _, _⟩
  · exact ⟨none, 0, .nil, rfl, ⟨⟨rfl, Nat.zero_le _, fun h => absurd h (by simp [Nodes.len])⟩, Nat.le_refl _⟩, fun _ => trivial, Nat.le_refl _⟩
  · have each : ∀ j y, (elems.map (·.1))[j]? = some y → Elem W ad (0 + j) y := by
      intro j y hy
      rw [List.getElem?_map] at hy
      obtain ⟨z, hz, rfl⟩ := Option.map_eq_some_iff.1 hy
      have hj : j < len := by have := (List.getElem?_eq_some_iff.1 hz).1; omega
      have hb := hel j hj
      rw [hz, cells_node, Option.bind_eq_some_iff] at hb
      obtain ⟨c, hc, hd⟩ := hb
      obtain ⟨_, hc5, hcell⟩ := World.cells?_some hc
      obtain ⟨xs, m, rfl, rfl, _, hxs, hf⟩ := DataW.trod_struct Tryz.underlying37 hd
      obtain ⟨y0, y1, y2, y3, y4, rfl⟩ := five hxs
      obtain ⟨v0, v1, v2, v3, v4, rfl⟩ := five hc5
      have f0 := hf 0 _ rfl
      have f1 := hf 1 _ rfl
      have f2 := hf 2 _ rfl
      have f3 := hf 3 _ rfl
      have f4 := hf 4 _ rfl
      simp only [List.getElem_toArray, List.getElem_cons_zero, List.getElem_cons_succ, cells_kind] at f0
      simp only [List.getElem_toArray, List.getElem_cons_zero, List.getElem_cons_succ, cells_strs] at f1
      simp only [List.getElem_toArray, List.getElem_cons_zero, List.getElem_cons_succ, cells_names] at f2
      simp only [List.getElem_toArray, List.getElem_cons_zero, List.getElem_cons_succ, cells_nodes] at f3 f4
      obtain ⟨k, e0, rfl, hk⟩ := DataW.trod_int under_kind f0
      obtain ⟨s, e1, rfl, hs⟩ := DataW.trod_string Tryz.underlying9 f1
      obtain ⟨A2, c2, p, e2, hp, lp, sp⟩ := open_names f2
      obtain ⟨A3, c3, a, e3, ha, sa, na⟩ := ih m (by omega) _ _ f3
      obtain ⟨A4, c4, b, e4, hb, sb, nb⟩ := ih m (by omega) _ _ f4
      simp only [List.drop, List.take, List.cons.injEq, and_true] at e0 e1 e2 e3 e4
      subst e0 e1 e2 e3 e4
      have hk' : 0 ≤ k ∧ k < 256 := by
        have h1 : IntKind.u8.min = 0 := by decide
        have h2 : IntKind.u8.max = 255 := by decide
        have := hk
        simp [Lit.wf, h1, h2] at this
        omega
      obtain ⟨k, rfl⟩ : ∃ q : Nat, k = q := ⟨k.toNat, by omega⟩
      refine ⟨k, s.data.toList, p, a, b, ⟨[.int .u8 k, .string s, .slice A2 p.length c2, .slice A3 (Nodes.len a) c3, .slice A4 (Nodes.len b) c4], rfl, ?_, fun i u hu => ?_⟩, ?_, ?_⟩
      · rw [bs_toList]
        have := k37_mk W (⟨(k : Nat), s, p.map bs, Nodes.of a, Nodes.of b⟩ : SN) (A2 := A2) (c2 := c2) (by simpa using hp.2) (by simpa using hp.1) (A3 := A3) (c3 := c3) (by simpa [Nodes.of_len] using ha.2) (by simpa [Nodes.of_len] using ha.1) (A4 := A4) (c4 := c4) (by simpa [Nodes.of_len] using hb.2) (by simpa [Nodes.of_len] using hb.1)
        simpa [Nodes.of_len] using this
      · have hi : i < 5 := by have := (List.getElem?_eq_some_iff.1 hu).1; simpa using this
        rw [Nat.zero_add, ← hu, ← hcell i hi, Go.Deep.add_add]
      · intro hbk
        simp only [List.map_cons, List.map_nil, Rows.uptoBulk, Rows.uptoBulkAll] at hbk
        refine ⟨by omega, by omega, by omega, fun q hq => ?_, ?_, ?_, sa (by omega), sb (by omega), trivial⟩
        · have := sp q hq; omega
        · have := cnt_len a; omega
        · have := cnt_len b; omega
      · simp only [List.map_cons, List.map_nil, Rows.uptoBulk, Rows.uptoBulkAll]
        omega
    obtain ⟨l, h1, h2, h3, h4⟩ := gather (elems.map (·.1)) 0 each
    have h1' : l.len = len := by rw [h1, List.length_map, hlen]
    refine ⟨some ad, cap, l, by rw [h1'], ⟨⟨Nodes.of_len l, by rw [h1']; unfold maxLen at hm; omega, fun _ => ⟨ad, rfl, fun j p hp => ?_⟩⟩, by omega⟩, ?_, ?_⟩
    · have := h2 j p hp
      rwa [Nat.zero_add] at this
    · intro hb
      simp only [Rows.uptoBulk] at hb
      exact h3 (by omega)
    · simp only [Rows.uptoBulk]
      omega
end
end Go.Proofs.YtniibpndgcndbaaGreatDoor.Tpl
namespace Go.Proofs.YtniibpndgcndbaaGreatDoor.Tpl
open Go.RowKit Go.ChangeShapes Go.WideShapes Go.Proofs.YtniibpndgcndbaaGreatDoor.PB Go.Proofs.YtniibpndgcndbaaGreatDoorW.PrintWords
section
variable {H : Type} {enc : TypeId × Value → H} {W : World}
theorem cells_val : Tryz.prog.cellsOf 43 = 5 := by kernel_rfl
theorem cells_vkind : Tryz.prog.cellsOf 40 = 1 := by kernel_rfl
theorem cells_i64 : Tryz.prog.cellsOf 2 = 1 := by kernel_rfl
theorem cells_vals : Tryz.prog.cellsOf 41 = 1 := by kernel_rfl
theorem under_vkind : Tryz.prog.underlying 40 = some (.int .u8) := by kernel_rfl
def ElemV (W : World) (ad : Addr) (j : Nat) (y : DataW H) : Prop :=
  ∃ k t n i m, (∃ c, c.length = 5 ∧ kV.K W ⟨(k : Nat), bs t, n, Vals.of i, m.map bs⟩ c ∧ ∀ q u, c[q]? = some u → W.cell? (ad.add (j * 5 + q)) = some u) ∧
    (Rows.uptoBulk y ≤ 1048576 → (Vals.cons k t n i m .nil).sm) ∧ 1 + i.cnt ≤ Rows.uptoBulk y
theorem gatherV {ad : Addr} : ∀ (ys : List (DataW H)) (o : Nat), (∀ j y, ys[j]? = some y → ElemV W ad (o + j) y) →
    ∃ l : Vals, l.len = ys.length ∧ (∀ j x, l.of[j]? = some x → ∃ c, c.length = 5 ∧ kV.K W x c ∧ ∀ i u, c[i]? = some u → W.cell? (ad.add ((o + j) * 5 + i)) = some u) ∧
      (Rows.uptoBulkAll ys ≤ 1048576 → l.sm) ∧ l.cnt ≤ Rows.uptoBulkAll ys := by
  intro ys
  induction ys with
  | nil => exact fun o _ => ⟨.nil, rfl, fun j x h => by simp [Vals.of] at h, fun _ => trivial, Nat.zero_le _⟩
  | cons y ys ih =>
    intro o h
    obtain ⟨r, h1, h2, h3, h4⟩ := ih (o + 1) (fun j z hz => by have := h (j + 1) z (by simpa using hz); rwa [show o + (j + 1) = o + 1 + j by omega] at this)
    obtain ⟨k, t, n, i, m, hc, hs, hn⟩ := h 0 y rfl
    refine ⟨.cons k t n i m r, by simp [Vals.len, h1], ?_, ?_, ?_⟩
    · intro j x hx
      cases j with
      | zero =>
        have : (⟨(k : Nat), bs t, n, Vals.of i, m.map bs⟩ : SV) = x := by simpa [Vals.of] using hx
        subst this
        exact hc
      | succ j =>
        have := h2 j x (by simpa [Vals.of] using hx)
        rwa [show o + 1 + j = o + (j + 1) by omega] at this
    · intro hb
      simp only [Rows.uptoBulkAll] at hb
      obtain ⟨g1, g2, g3, g4, g5, g6, g7, _⟩ := hs (by omega)
      exact ⟨g1, g2, g3, g4, g5, g6, g7, h3 (by omega)⟩
    · simp only [Rows.uptoBulkAll, Vals.cnt]
      omega
theorem cnt_lenV (l : Vals) : l.len ≤ l.cnt := by
  induction l with
  | nil => exact Nat.le_refl _
  | cons k t n i m r _ ih => simp only [Vals.len, Vals.cnt]; omega
theorem open_cells (m0 : Nat) (ih : ∀ (cs : List Value) (x : DataW H × List MemPlace), DataW.trod enc Tryz.prog W 0 (fun _ => true) true m0 41 cs = some x → ∃ A c l, cs = [.slice A (Vals.len l) c] ∧ Vals.Rd W A c l ∧ (Rows.uptoBulk x.1 ≤ 1048576 → l.sm) ∧ l.cnt + 1 ≤ Rows.uptoBulk x.1)
    (xs : List (DataW H × List MemPlace)) (c : List Value) (hxs : xs.length = 5) (hc5 : c.length = 5)
    (f0 : DataW.trod enc Tryz.prog W 0 (fun _ => true) true m0 40 ((c.drop 0).take 1) = xs[0]?) (f1 : DataW.trod enc Tryz.prog W 0 (fun _ => true) true m0 9 ((c.drop 1).take 1) = xs[1]?) (f2 : DataW.trod enc Tryz.prog W 0 (fun _ => true) true m0 2 ((c.drop 2).take 1) = xs[2]?)
    (f3 : DataW.trod enc Tryz.prog W 0 (fun _ => true) true m0 41 ((c.drop 3).take 1) = xs[3]?) (f4 : DataW.trod enc Tryz.prog W 0 (fun _ => true) true m0 23 ((c.drop 4).take 1) = xs[4]?) :
    ∃ (v : Val) (A3 : Option Addr) (c3 : Nat) (A4 : Option Addr) (c4 : Nat), c = [.int .u8 v.k, .string (bs v.t), .int .i64 v.n, .slice A3 v.i.len c3, .slice A4 v.m.length c4] ∧ RdV W v A3 c3 A4 c4 ∧ (Rows.uptoBulkAll (xs.map (·.1)) ≤ 1048576 → v.sm) ∧ v.i.cnt ≤ Rows.uptoBulkAll (xs.map (·.1)) := by
  obtain ⟨y0, y1, y2, y3, y4, rfl⟩ := five hxs
  obtain ⟨v0, v1, v2, v3, v4, rfl⟩ := five hc5
  simp only [List.getElem?_cons_zero, List.getElem?_cons_succ] at f0 f1 f2 f3 f4
  obtain ⟨k, e0, rfl, hk⟩ := DataW.trod_int under_vkind f0
  obtain ⟨s, e1, rfl, hs⟩ := DataW.trod_string Tryz.underlying9 f1
  obtain ⟨n, e2, rfl, hn⟩ := DataW.trod_int Tryz.underlying2 f2
  obtain ⟨A3, c3, i, e3, hi, si, ni⟩ := ih _ _ f3
  obtain ⟨A4, c4, m, e4, hm, lm, sm⟩ := open_names f4
  simp only [List.drop, List.take, List.cons.injEq, and_true] at e0 e1 e2 e3 e4
  subst e0 e1 e2 e3 e4
  have hk' : 0 ≤ k ∧ k < 256 := by
    have h1 : IntKind.u8.min = 0 := by decide
    have h2 : IntKind.u8.max = 255 := by decide
    have := hk
    simp [Lit.wf, h1, h2] at this
    omega
  have hn' : -9223372036854775808 ≤ n ∧ n ≤ 9223372036854775807 := by
    have h1 : IntKind.i64.min = -9223372036854775808 := by decide
    have h2 : IntKind.i64.max = 9223372036854775807 := by decide
    have := hn
    simp [Lit.wf, h1, h2] at this
    omega
  obtain ⟨k, rfl⟩ : ∃ q : Nat, k = q := ⟨k.toNat, by omega⟩
  refine ⟨⟨k, s.data.toList, n, i, m⟩, A3, c3, A4, c4, ?_, ⟨hi, hm⟩, ?_, ?_⟩
  · simp only [bs_toList]
  · intro hbk
    simp only [List.map_cons, List.map_nil, Rows.uptoBulk, Rows.uptoBulkAll] at hbk
    refine ⟨by show k < 256; omega, by show s.data.toList.length ≤ 1048576; omega, hn', ?_, by show m.length ≤ 1048576; omega, fun q hq => ?_, si (by omega), trivial⟩
    · have := cnt_lenV i; show i.len ≤ 1048576; omega
    · have := sm q hq; omega
  · simp only [List.map_cons, List.map_nil, Rows.uptoBulk, Rows.uptoBulkAll]
    show i.cnt ≤ _
    omega
theorem open_vals : ∀ (fuel : Nat) (cs : List Value) (x : DataW H × List MemPlace), DataW.trod enc Tryz.prog W 0 (fun _ => true) true fuel 41 cs = some x →
    ∃ A c l, cs = [.slice A (Vals.len l) c] ∧ Vals.Rd W A c l ∧ (Rows.uptoBulk x.1 ≤ 1048576 → l.sm) ∧ l.cnt + 1 ≤ Rows.uptoBulk x.1 := by
  intro fuel
  induction fuel using Nat.strongRecOn with
  | ind fuel ih =>
  intro cs x h
  rcases DataW.trod_slice Tryz.underlying41 h with ⟨rfl, rfl⟩ | ⟨ad, len, cap, elems, rest, n, rfl, rfl, rfl, _, hl, hm, hlen, hel, _, _⟩
  · exact ⟨none, 0, .nil, rfl, ⟨⟨rfl, Nat.zero_le _, fun h => absurd h (by simp [Vals.len])⟩, Nat.le_refl _⟩, fun _ => trivial, Nat.le_refl _⟩
  · have each : ∀ j y, (elems.map (·.1))[j]? = some y → ElemV W ad (0 + j) y := by
      intro j y hy
      rw [List.getElem?_map] at hy
      obtain ⟨z, hz, rfl⟩ := Option.map_eq_some_iff.1 hy
      have hj : j < len := by have := (List.getElem?_eq_some_iff.1 hz).1; omega
      have hb := hel j hj
      rw [hz, cells_val, Option.bind_eq_some_iff] at hb
      obtain ⟨c, hc, hd⟩ := hb
      obtain ⟨_, hc5, hcell⟩ := World.cells?_some hc
      obtain ⟨xs, m, rfl, rfl, _, hxs, hf⟩ := DataW.trod_struct Tryz.underlying43 hd
      have f0 := hf 0 _ rfl
      have f1 := hf 1 _ rfl
      have f2 := hf 2 _ rfl
      have f3 := hf 3 _ rfl
      have f4 := hf 4 _ rfl
      simp only [List.getElem_toArray, List.getElem_cons_zero, List.getElem_cons_succ, cells_vkind] at f0
      simp only [List.getElem_toArray, List.getElem_cons_zero, List.getElem_cons_succ, cells_strs] at f1
      simp only [List.getElem_toArray, List.getElem_cons_zero, List.getElem_cons_succ, cells_i64] at f2
      simp only [List.getElem_toArray, List.getElem_cons_zero, List.getElem_cons_succ, cells_vals] at f3
      simp only [List.getElem_toArray, List.getElem_cons_zero, List.getElem_cons_succ, cells_names] at f4
      obtain ⟨v, A3, c3, A4, c4, rfl, hR, hs, hn⟩ := open_cells m (fun cs x h => ih m (by omega) cs x h) xs c hxs hc5 f0 f1 f2 f3 f4
      refine ⟨v.k, v.t, v.n, v.i, v.m, ⟨[.int .u8 v.k, .string (bs v.t), .int .i64 v.n, .slice A3 v.i.len c3, .slice A4 v.m.length c4], rfl, ?_, fun q u hu => ?_⟩, ?_, ?_⟩
      · have := k43_mk W (⟨(v.k : Nat), bs v.t, v.n, Vals.of v.i, v.m.map bs⟩ : SV) (A3 := A3) (c3 := c3) (by simpa [Vals.of_len] using hR.1.2) (by simpa [Vals.of_len] using hR.1.1) (A4 := A4) (c4 := c4) (by simpa using hR.2.2) (by simpa using hR.2.1)
        simpa [Vals.of_len] using this
      · have hi : q < 5 := by have := (List.getElem?_eq_some_iff.1 hu).1; simpa using this
        rw [Nat.zero_add, ← hu, ← hcell q hi, Go.Deep.add_add]
      · intro hbk
        exact hs (by simp only [Rows.uptoBulk] at hbk; omega)
      · simp only [Rows.uptoBulk]
        omega
    obtain ⟨l, h1, h2, h3, h4⟩ := gatherV (elems.map (·.1)) 0 each
    have h1' : l.len = len := by rw [h1, List.length_map, hlen]
    refine ⟨some ad, cap, l, by rw [h1'], ⟨⟨Vals.of_len l, by rw [h1']; unfold maxLen at hm; omega, fun _ => ⟨ad, rfl, fun j p hp => ?_⟩⟩, by omega⟩, ?_, ?_⟩
    · have := h2 j p hp
      rwa [Nat.zero_add] at this
    · intro hb
      simp only [Rows.uptoBulk] at hb
      exact h3 (by omega)
    · simp only [Rows.uptoBulk]
      omega
theorem open_val {fuel : Nat} {cs : List Value} {x : DataW H × List MemPlace} (h : DataW.trod enc Tryz.prog W 0 (fun _ => true) true fuel 43 cs = some x) :
    ∃ (v : Val) (A3 : Option Addr) (c3 : Nat) (A4 : Option Addr) (c4 : Nat), cs = [.int .u8 v.k, .string (bs v.t), .int .i64 v.n, .slice A3 v.i.len c3, .slice A4 v.m.length c4] ∧ RdV W v A3 c3 A4 c4 ∧ (Rows.uptoBulk x.1 ≤ 1048576 → v.fit) := by
  obtain ⟨xs, m, _, rfl, hl, hxs, hf⟩ := DataW.trod_struct Tryz.underlying43 h
  rw [cells_val] at hl
  have f0 := hf 0 _ rfl
  have f1 := hf 1 _ rfl
  have f2 := hf 2 _ rfl
  have f3 := hf 3 _ rfl
  have f4 := hf 4 _ rfl
  simp only [List.getElem_toArray, List.getElem_cons_zero, List.getElem_cons_succ, cells_vkind] at f0
  simp only [List.getElem_toArray, List.getElem_cons_zero, List.getElem_cons_succ, cells_strs] at f1
  simp only [List.getElem_toArray, List.getElem_cons_zero, List.getElem_cons_succ, cells_i64] at f2
  simp only [List.getElem_toArray, List.getElem_cons_zero, List.getElem_cons_succ, cells_vals] at f3
  simp only [List.getElem_toArray, List.getElem_cons_zero, List.getElem_cons_succ, cells_names] at f4
  obtain ⟨v, A3, c3, A4, c4, rfl, hR, hs, hn⟩ := open_cells m (fun cs x h => open_vals m cs x h) xs cs hxs hl f0 f1 f2 f3 f4
  refine ⟨v, A3, c3, A4, c4, rfl, hR, fun hb => ?_⟩
  simp only [Rows.uptoBulk] at hb
  exact ⟨hs (by omega), by omega⟩
end
end Go.Proofs.YtniibpndgcndbaaGreatDoor.Tpl
namespace Go.Proofs.YtniibpndgcndbaaGreatDoor.Tpl
open Go.RowKit
theorem gErr : Tryz.prog.globalNamed "bellman/tree.errPair" = some 1 := by kernel_rfl
theorem tErr : (Tryz.prog.globals[1]?).map (·.type) = some 83 := by kernel_rfl
theorem starErr : "*" ++ "errors.errorString" = "*errors.errorString" := by decide
theorem rowErr (u : TypeId) (h : Tryz.prog.typeName? 3 u = some "*errors.errorString") : u = 266 :=
  typeName_ptr_named (nm := "errors.errorString") (by rw [starErr]; kernel_rfl) (by kernel_rfl) (by decide) u (by rw [starErr]; exact h)
theorem glob_of_sentinel {W : World} {r : List (String × DataW Unit)} (hW : W.ShapedOpen Tryz.prog) (h : laidMet Tryz.prog (("bellman/tree.errPair", Rows.laid_bellman_tree_errPair) :: r) W) : Glob W := by
  refine ⟨cell_of_shapedOpen_int (g := 3) (zero := #[.int .i64 0]) (t := 3) hW (of_decide_eq_true (by kernel_rfl)) (by kernel_rfl) rfl (by kernel_rfl) (by kernel_rfl) Tryz.underlying3, ?_⟩
  obtain ⟨a, s, hv, _⟩ := laid_sentinel (n := "bellman/tree.errPair") (nm := "*errors.errorString") h gErr tErr Tryz.underlying83 rowErr Tryz.underlying266 Tryz.underlying284 rfl rfl Tryz.underlying9 (by kernel_rfl) (by kernel_rfl)
  exact ⟨a, by simpa using World.var?_cell gErr hv 0⟩
end Go.Proofs.YtniibpndgcndbaaGreatDoor.Tpl
