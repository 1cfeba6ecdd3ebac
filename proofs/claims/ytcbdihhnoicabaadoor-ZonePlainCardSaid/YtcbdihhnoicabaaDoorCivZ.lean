/- What civil's functions compute: plain numbers. Conditions: none beyond each lemma's own. -/
import Derived.Test.YtcbdihhnoicabaaDoorPZx0
import Derived.Test.YtcbdihhnoicabaaDoorPZx3
import Derived.Test.YtcbdihhnoicabaaDoorPZx4
namespace Go.Proofs.YtcbdihhnoicabaaDoor.CivZ
open Go.RowKit Go.Proofs.YtcbdihhnoicabaaDoor.PZ Go.Proofs.YtcbdihhnoicabaaDoor.Hand Go.Proofs.YtcbdihhnoicabaaDoorW.PrintWords Go.Proofs.YtcbdihhnoicabaaDoorW.PrintLast
theorem w64 {x : Int} (h1 : -9223372036854775808 ≤ x) (h2 : x ≤ 9223372036854775807) : wrap64 x = x := by unfold wrap64; omega
/-- the days ahead of a month -/
def ah (y m : Int) : Int := beforeAt (m - 1) + if 2 < m ∧ longB y = true then 1 else 0
/-- the days of a month -/
def mlen (y m : Int) : Int := ah y (m + 1) - ah y m
theorem m12 {m : Int} (h1 : 1 ≤ m) (h2 : m ≤ 12) : m = 1 ∨ m = 2 ∨ m = 3 ∨ m = 4 ∨ m = 5 ∨ m = 6 ∨ m = 7 ∨ m = 8 ∨ m = 9 ∨ m = 10 ∨ m = 11 ∨ m = 12 := by omega
theorem ahead_f {y m : Int} (h1 : 1 ≤ m) (h2 : m ≤ 13) : civil_ahead.f y m = some (ah y m) := by unfold civil_ahead.f ah; rw [if_pos ⟨h1, h2⟩]
theorem ah_bd (y m : Int) : 0 ≤ ah y m ∧ ah y m ≤ 366 := by
  unfold ah; have := beforeAt_le (m - 1); split <;> omega
theorem mlen_eq (y : Int) {m : Int} (h1 : 1 ≤ m) (h2 : m ≤ 12) : mlen y m = if m = 2 then (if longB y = true then 29 else 28) else if m = 4 ∨ m = 6 ∨ m = 9 ∨ m = 11 then 30 else 31 := by
  rcases m12 h1 h2 with h | h | h | h | h | h | h | h | h | h | h | h <;> subst h <;> cases hl : longB y <;> simp [mlen, ah, hl, beforeAt, beforeL]
theorem mlen_bd (y : Int) {m : Int} (h1 : 1 ≤ m) (h2 : m ≤ 12) : 28 ≤ mlen y m ∧ mlen y m ≤ 31 := by
  rw [mlen_eq y h1 h2]; repeat' split
  all_goals omega
theorem ah_one (y : Int) : ah y 1 = 0 := by simp [ah, beforeAt, beforeL]
theorem ah_succ (y m : Int) : ah y (m + 1) = ah y m + mlen y m := by unfold mlen; omega
def Valid (y m d : Int) : Prop := 1 ≤ y ∧ y ≤ 9999 ∧ 1 ≤ m ∧ m ≤ 12 ∧ 1 ≤ d ∧ d ≤ mlen y m
instance (y m d : Int) : Decidable (Valid y m d) := inferInstanceAs (Decidable (_ ∧ _))
theorem there_f (y m d : Int) : civil_there.f y m d = some (decide (Valid y m d)) := by
  unfold civil_there.f civil_year.f
  by_cases a1 : y ≥ 1
  · rw [if_pos a1]; simp only [Option.bind_some, decide_eq_true_eq]
    by_cases a2 : y ≤ 9999
    · rw [if_pos a2]
      by_cases a3 : m ≥ 1
      · rw [if_pos a3]
        by_cases a4 : m ≤ 12
        · rw [if_pos a4]
          by_cases a5 : d ≥ 1
          · rw [if_pos a5, w64 (by omega) (by omega), ahead_f (by omega) (by omega), ahead_f (by omega) (by omega)]
            have b1 := ah_bd y m; have b2 := ah_bd y (m + 1)
            simp only [Option.bind_some]
            rw [w64 (by omega) (by omega)]
            have : (d ≤ ah y (m + 1) - ah y m) ↔ Valid y m d := by unfold Valid mlen; omega
            simp only [this]
          · rw [if_neg a5, decide_eq_false (by unfold Valid; omega)]
        · rw [if_neg a4, decide_eq_false (by unfold Valid; omega)]
      · rw [if_neg a3, decide_eq_false (by unfold Valid; omega)]
    · rw [if_neg a2, decide_eq_false (by unfold Valid; omega)]
  · rw [if_neg a1, decide_eq_false (by unfold Valid; omega)]; rfl
/-- the days ahead of a year, from the year 1 on -/
def yd (y : Int) : Int := 365 * (y - 1) + (y - 1) / 4 - (y - 1) / 100 + (y - 1) / 400
theorem yd_bd {y : Int} (h1 : 1 ≤ y) (h2 : y ≤ 10000) : 0 ≤ yd y ∧ yd y ≤ 3652059 := by unfold yd; omega
/-- a day's number, counted from January 1st of the year 1 -/
def num (y m d : Int) : Int := yd y + ah y m + d - 1
theorem td {a b : Int} (h : 0 ≤ a) : Int.tdiv a b = a / b := Int.tdiv_eq_ediv_of_nonneg h
theorem tm {a b : Int} (h : 0 ≤ a) : Int.tmod a b = a % b := Int.tmod_eq_emod_of_nonneg h
theorem number_f {y m d : Int} (h1 : 1 ≤ y) (h2 : y ≤ 9999) (h3 : 1 ≤ m) (h4 : m ≤ 12) (h5 : 0 ≤ d) (h6 : d ≤ 100) : civil_number.f y m d = some (num y m d) := by
  unfold civil_number.f
  rw [ahead_f (by omega) (by omega)]
  have b1 := ah_bd y m
  simp only [Option.bind_some]
  simp (disch := omega) only [w64, td]
  unfold num yd; rw [show 365 * (y - 1) + (y - 1) / 4 - (y - 1) / 100 + (y - 1) / 400 + ah y m + d - 1 = 365 * (y - 1) + (y - 1) / 4 - (y - 1) / 100 + (y - 1) / 400 + ah y m + d - 1 from rfl]
theorem num_bd {y m d : Int} (h : Valid y m d) : 0 ≤ num y m d ∧ num y m d ≤ 3653000 := by
  obtain ⟨h1, h2, h3, h4, h5, h6⟩ := h
  have b1 := yd_bd h1 (show y ≤ 10000 by omega)
  have b2 := ah_bd y m
  have b3 := mlen_bd y h3 h4
  unfold num; omega
theorem valid_31 {y m d : Int} (h : Valid y m d) : d ≤ 31 := by
  obtain ⟨h1, h2, h3, h4, h5, h6⟩ := h
  have b3 := mlen_bd y h3 h4
  omega
/-- the day of the week -/
def wday (y m d : Int) : Int := (num y m d + 1) % 7
theorem weekday_f (y m d : Int) : civil_Weekday.f y m d = some (if Valid y m d then (wday y m d, 0) else (0, 1)) := by
  unfold civil_Weekday.f
  rw [there_f]
  by_cases h : Valid y m d
  · have b := num_bd h
    have b3 := valid_31 h
    simp only [Option.bind_some, h, decide_true, if_true]
    obtain ⟨h1, h2, h3, h4, h5, h6⟩ := h
    rw [number_f h1 h2 h3 h4 (by omega) (by omega)]
    simp only [Option.bind_some]
    unfold civil_weekday.f
    rw [w64 (by omega) (by omega), tm (by omega)]; rfl
  · simp [h]
/-- how many days the first day of a weekday is behind the month's first -/
def off (y m w : Int) : Int := (w - wday y m 1 + 7) % 7
/-- the n-th day of a weekday -/
def nth (y m w n : Int) : Int := if 1 + off y m w + 7 * (n - 1) ≤ mlen y m then 1 + off y m w + 7 * (n - 1) else 1 + off y m w + 7 * (n - 1) - 7
def NthOk (y m w n : Int) : Prop := Valid y m 1 ∧ 0 ≤ w ∧ w ≤ 6 ∧ 1 ≤ n ∧ n ≤ 5
instance (y m w n : Int) : Decidable (NthOk y m w n) := inferInstanceAs (Decidable (_ ∧ _))
theorem wday_bd (y m d : Int) : 0 ≤ wday y m d ∧ wday y m d ≤ 6 := by unfold wday; omega
theorem nth_f (y m w n : Int) {k : Nat} (hk : 1 ≤ k) : civil_Nth.f k y m w n = some (if NthOk y m w n then (nth y m w n, 0) else (0, 1)) := by
  obtain ⟨k, rfl⟩ : ∃ j, k = j + 1 := ⟨k - 1, by omega⟩
  unfold civil_Nth.f
  rw [weekday_f]
  by_cases h : Valid y m 1
  · simp only [Option.bind_some, h, if_true]
    by_cases a1 : w < 0
    · rw [if_pos a1]; rw [if_neg (by unfold NthOk; omega)]; simp [civil_Nth.j0]
    · rw [if_neg a1]
      by_cases a2 : w > 6
      · rw [if_pos a2]; rw [if_neg (by unfold NthOk; omega)]; simp [civil_Nth.j0]
      · rw [if_neg a2]
        by_cases a3 : n < 1
        · rw [if_pos a3]; rw [if_neg (by unfold NthOk; omega)]; simp [civil_Nth.j0]
        · rw [if_neg a3]
          by_cases a4 : n > 5
          · rw [if_neg (by unfold NthOk; omega)]; simp [civil_Nth.j0, a4]
          · rw [if_pos ⟨h, by omega⟩, decide_eq_false a4]
            simp only [civil_Nth.j0]
            rw [if_neg (by decide)]
            have b := wday_bd y m 1
            have e : wrap64 ((wrap64 (1 + (Int.tmod (wrap64 ((wrap64 (w - wday y m 1)) + 7)) 7))) + (wrap64 (7 * (wrap64 (n - 1))))) = 1 + off y m w + 7 * (n - 1) := by
              unfold off
              simp (disch := omega) only [w64, tm]
            rw [e, there_f]
            simp only [Option.bind_some]
            have o : 0 ≤ off y m w ∧ off y m w ≤ 6 := by unfold off; omega
            rw [w64 (x := 1 + off y m w + 7 * (n - 1) - 7) (by omega) (by omega)]
            obtain ⟨h1, h2, h3, h4, h5, h6⟩ := h
            unfold nth
            by_cases hl : 1 + off y m w + 7 * (n - 1) ≤ mlen y m
            · rw [decide_eq_true (show Valid _ _ _ by unfold Valid; omega), if_pos rfl, if_pos hl]
            · rw [decide_eq_false (show ¬ Valid _ _ _ by unfold Valid; omega), if_neg (by decide), if_neg hl]
  · rw [if_neg (fun z : NthOk y m w n => h z.1)]
    simp [h, civil_Nth.j0]
theorem wday_off (y m d : Int) : wday y m d = (wday y m 1 + d - 1) % 7 := by unfold wday num; omega
end Go.Proofs.YtcbdihhnoicabaaDoor.CivZ
