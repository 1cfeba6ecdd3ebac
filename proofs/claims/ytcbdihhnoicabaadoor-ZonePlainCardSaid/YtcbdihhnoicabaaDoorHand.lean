import Derived.Test.YtcbdihhnoicabaaDoorShort
namespace Go.Proofs.YtcbdihhnoicabaaDoor.Hand
open Go.RowKit Go.Proofs.YtcbdihhnoicabaaDoor.Short Go.Proofs.YtcbdihhnoicabaaDoorW.PrintWords Go.Proofs.YtcbdihhnoicabaaDoorW.PrintLast Go.Proofs.YtcbdihhnoicabaaDoorW.PrintMore
def beforeL : List Int := [0, 31, 59, 90, 120, 151, 181, 212, 243, 273, 304, 334, 365]
def beforeAt (i : Int) : Int := beforeL.getD i.toNat 0
def Glob (w : World) : Prop := ∀ i : Nat, i < 13 → w.cell? ⟨1, i, none⟩ = some (.int .i64 (beforeL.getD i 0))
theorem Glob.drewN {w : World} (h : Glob w) (n : Nat) : Glob (w.drewN n) := h
theorem Glob.drew {w : World} (h : Glob w) : Glob w.drew := h
theorem Glob.below {w w' : World} (h : Glob w) (hb : Below w.heap.size w w') : Glob w' := fun i hi => pw_cell_below hb (h i hi)
theorem globS {w X : World} (h : Glob w) [s : Stp w X] : Glob X := h.below s.out
theorem Glob.drawn {w w' : World} (h : Glob w) (hb : Drawn0 w w') : Glob w' := h.below hb.below
def longB (y : Int) : Bool := if Int.tmod y 400 = 0 then true else if Int.tmod y 100 = 0 then false else Int.tmod y 4 == 0
theorem long_any (y : Int) (w : World) : Calls Tryd.prog 65 #[.int .i64 y] w fun e w' => e = .returned (.bool (longB y)) ∧ w = w' := by
  by_cases h1 : Int.tmod y 400 = 0
  · have e : longB y = true := by simp [longB, h1]
    rw [e]
    have h1b : ((Int.tmod y 400) == 0) = true := by simpa using h1
    clear h1 e
    go_enter Tryd.func65, Tryd.ntmps65
    go_wp2
    go_ret
    exact ⟨rfl, rfl⟩
  · have h1b : ((Int.tmod y 400) == 0) = false := by simpa using h1
    by_cases h2 : Int.tmod y 100 = 0
    · have e : longB y = false := by simp [longB, h1, h2]
      rw [e]
      have h2b : ((Int.tmod y 100) == 0) = true := by simpa using h2
      clear h1 h2 e
      go_enter Tryd.func65, Tryd.ntmps65
      go_wp2
      go_ret
      exact ⟨rfl, rfl⟩
    · have e : longB y = (Int.tmod y 4 == 0) := by simp [longB, h1, h2]
      rw [e]
      have h2b : ((Int.tmod y 100) == 0) = false := by simpa using h2
      clear h1 h2 e
      go_enter Tryd.func65, Tryd.ntmps65
      go_wp2
      go_ret
      exact ⟨rfl, rfl⟩
def civil_ahead.f (a0 a1 : Int) : Option Int := if 1 ≤ a1 ∧ a1 ≤ 13 then some (beforeAt (a1 - 1) + if 2 < a1 ∧ longB a0 = true then 1 else 0) else none
theorem beforeAt_le (i : Int) : 0 ≤ beforeAt i ∧ beforeAt i ≤ 365 := by
  unfold beforeAt
  by_cases h : i.toNat < 13
  · have : ∀ k : Nat, k < 13 → 0 ≤ beforeL.getD k 0 ∧ beforeL.getD k 0 ≤ 365 := by decide
    exact this _ h
  · rw [List.getD_eq_getElem?_getD, List.getElem?_eq_none (by simp [beforeL]; omega)]; simp
set_option maxHeartbeats 1000000 in
theorem civil_ahead.calls (a0 a1 : Int) (r : Int) (w : World) (h : civil_ahead.f a0 a1 = some r) (hG : Glob w) :
    Calls Tryd.prog 37 #[.int .i64 a0, .int .i64 a1] w fun e w' => e = .returned (.int .i64 r) ∧ Drawn0 w w' := by
  unfold civil_ahead.f at h
  by_cases hb : 1 ≤ a1 ∧ a1 ≤ 13
  · rw [if_pos hb] at h
    obtain rfl := Option.some.inj h
    clear h
    obtain ⟨h1, h2⟩ := hb
    have hc := hG (a1 - 1).toNat (by omega)
    have hv := beforeAt_le (a1 - 1)
    have hc' : w.cell? ⟨1, a1.toNat - 1, none⟩ = some (.int .i64 (beforeAt (a1 - 1))) := by rw [show a1.toNat - 1 = (a1 - 1).toNat from by omega]; exact hc
    clear hc hG
    generalize beforeAt (a1 - 1) = v at *
    obtain ⟨hv0, hv1⟩ := hv
    by_cases h3 : 2 < a1
    · cases hl : longB a0 with
      | true =>
        rw [if_pos ⟨h3, rfl⟩]
        have hl' := Aside0.mk hl; clear hl
        go_enter Tryd.func37, Tryd.ntmps37
        go_wp2_with (go_at_call 65; refine (long_any _ _).mono ?_; rintro e w' ⟨rfl, rfl⟩; rw [hl'.out])
        go_ret
        exact ⟨rfl, Drawn0.refl _⟩
      | false =>
        rw [if_neg (by simp)]
        have hl' := Aside0.mk hl; clear hl
        go_enter Tryd.func37, Tryd.ntmps37
        go_wp2_with (go_at_call 65; refine (long_any _ _).mono ?_; rintro e w' ⟨rfl, rfl⟩; rw [hl'.out])
        go_ret
        exact ⟨by simp, Drawn0.refl _⟩
    · rw [if_neg (by omega)]
      go_enter Tryd.func37, Tryd.ntmps37
      have h3' : a1 ≤ 2 := by omega
      go_wp2
      go_ret
      exact ⟨by simp, Drawn0.refl _⟩
  · rw [if_neg hb] at h; cases h
end Go.Proofs.YtcbdihhnoicabaaDoor.Hand
