/- What civil's functions, and the reference's, compute: plain numbers. Conditions: none beyond each lemma's own. -/
import Derived.Test.YtcbdihhnoicabaaDoorPXx0
import Derived.Test.YtcbdihhnoicabaaDoorPXx3
import Derived.Test.YtcbdihhnoicabaaDoorPXx4
import Derived.Test.YtcbdihhnoicabaaDoorPXx5
namespace Go.Proofs.YtcbdihhnoicabaaDoor.CivPure
open Go.RowKit Go.Proofs.YtcbdihhnoicabaaDoor.PX Go.Proofs.YtcbdihhnoicabaaDoor.Hand Go.Proofs.YtcbdihhnoicabaaDoorW.PrintWords Go.Proofs.YtcbdihhnoicabaaDoorW.PrintLast
theorem w64 {x : Int} (h1 : -9223372036854775808 ≤ x) (h2 : x ≤ 9223372036854775807) : wrap64 x = x := by unfold wrap64; omega
/-- the days ahead of a month -/
def ah (y m : Int) : Int := beforeAt (m - 1) + if 2 < m ∧ longB y = true then 1 else 0
/-- the days of a month -/
def mlen (y m : Int) : Int := ah y (m + 1) - ah y m
theorem m12 {m : Int} (h1 : 1 ≤ m) (h2 : m ≤ 12) : m = 1 ∨ m = 2 ∨ m = 3 ∨ m = 4 ∨ m = 5 ∨ m = 6 ∨ m = 7 ∨ m = 8 ∨ m = 9 ∨ m = 10 ∨ m = 11 ∨ m = 12 := by omega
theorem ahead_f {y m : Int} (h1 : 1 ≤ m) (h2 : m ≤ 13) : civil_ahead.f y m = some (ah y m) := by unfold civil_ahead.f ah; rw [if_pos ⟨h1, h2⟩]
theorem ah_bd (y m : Int) : 0 ≤ ah y m ∧ ah y m ≤ 366 := by
  unfold ah; have := beforeAt_le (m - 1); split <;> omega
theorem mlen_eq (y : Int) {m : Int} (h1 : 1 ≤ m) (h2 : m ≤ 12) : mlen y m = if m = 2 then (if longB y = true then 29 else 28) else if m = 4 ∨ m = 6 ∨ m = 9 ∨ m = 11 then 30 else 31 := by
  rcases m12 h1 h2 with h | h | h | h | h | h | h | h | h | h | h | h <;> subst h <;> cases hl : longB y <;> simp [mlen, ah, hl, beforeAt, beforeL]
theorem mlen_bd (y : Int) {m : Int} (h1 : 1 ≤ m) (h2 : m ≤ 12) : 28 ≤ mlen y m ∧ mlen y m ≤ 31 := by
  rw [mlen_eq y h1 h2]; repeat' split
  all_goals omega
theorem ah_one (y : Int) : ah y 1 = 0 := by simp [ah, beforeAt, beforeL]
theorem ah_succ (y m : Int) : ah y (m + 1) = ah y m + mlen y m := by unfold mlen; omega
def Valid (y m d : Int) : Prop := 1 ≤ y ∧ y ≤ 9999 ∧ 1 ≤ m ∧ m ≤ 12 ∧ 1 ≤ d ∧ d ≤ mlen y m
instance (y m d : Int) : Decidable (Valid y m d) := inferInstanceAs (Decidable (_ ∧ _))
theorem there_f (y m d : Int) : civil_there.f y m d = some (decide (Valid y m d)) := by
  unfold civil_there.f civil_year.f
  by_cases a1 : y ≥ 1
  · rw [if_pos a1]; simp only [Option.bind_some, decide_eq_true_eq]
    by_cases a2 : y ≤ 9999
    · rw [if_pos a2]
      by_cases a3 : m ≥ 1
      · rw [if_pos a3]
        by_cases a4 : m ≤ 12
        · rw [if_pos a4]
          by_cases a5 : d ≥ 1
          · rw [if_pos a5, w64 (by omega) (by omega), ahead_f (by omega) (by omega), ahead_f (by omega) (by omega)]
            have b1 := ah_bd y m; have b2 := ah_bd y (m + 1)
            simp only [Option.bind_some]
            rw [w64 (by omega) (by omega)]
            have : (d ≤ ah y (m + 1) - ah y m) ↔ Valid y m d := by unfold Valid mlen; omega
            simp only [this]
          · rw [if_neg a5, decide_eq_false (by unfold Valid; omega)]
        · rw [if_neg a4, decide_eq_false (by unfold Valid; omega)]
      · rw [if_neg a3, decide_eq_false (by unfold Valid; omega)]
    · rw [if_neg a2, decide_eq_false (by unfold Valid; omega)]
  · rw [if_neg a1, decide_eq_false (by unfold Valid; omega)]; rfl
theorem refLong_f (y : Int) : bellmanref05_long.f y = some (longB y) := by
  unfold bellmanref05_long.f longB
  by_cases h1 : Int.tmod y 400 = 0
  · rw [if_pos h1, if_pos h1]
  · rw [if_neg h1, if_neg h1]
    by_cases h2 : Int.tmod y 4 = 0
    · rw [if_pos h2]; simp only [h2, beq_self_eq_true]
      by_cases h3 : Int.tmod y 100 = 0
      · rw [if_pos h3]; simp [h3]
      · rw [if_neg h3]; simp [h3]
    · rw [if_neg h2]
      by_cases h3 : Int.tmod y 100 = 0
      · rw [if_pos h3]
      · rw [if_neg h3]; simp [h2]
theorem month_f (y : Int) {m : Int} (h1 : 1 ≤ m) (h2 : m ≤ 12) : bellmanref05_month.f y m = some (mlen y m) := by
  rw [mlen_eq y h1 h2]
  unfold bellmanref05_month.f
  rw [refLong_f]
  rcases m12 h1 h2 with h | h | h | h | h | h | h | h | h | h | h | h <;> subst h <;> cases hl : longB y <;> simp [wrap64, rd]
theorem refThere_f (y m d : Int) : bellmanref05_there.f y m d = some (decide (Valid y m d)) := by
  unfold bellmanref05_there.f
  by_cases a1 : y ≥ 1
  · rw [if_pos a1]
    by_cases a2 : y ≤ 9999
    · rw [if_pos a2]
      by_cases a3 : m ≥ 1
      · rw [if_pos a3]
        by_cases a4 : m ≤ 12
        · rw [if_pos a4]
          by_cases a5 : d ≥ 1
          · rw [if_pos a5, month_f y a3 a4]
            have : (d ≤ mlen y m) ↔ Valid y m d := by unfold Valid; omega
            simp only [Option.bind_some, this]
          · rw [if_neg a5, decide_eq_false (by unfold Valid; omega)]
        · rw [if_neg a4, decide_eq_false (by unfold Valid; omega)]
      · rw [if_neg a3, decide_eq_false (by unfold Valid; omega)]
    · rw [if_neg a2, decide_eq_false (by unfold Valid; omega)]
  · rw [if_neg a1, decide_eq_false (by unfold Valid; omega)]
theorem days_f (y m : Int) : civil_Days.f y m = some (if Valid y m 1 then (mlen y m, 0) else (0, 1)) := by
  unfold civil_Days.f
  rw [there_f]
  by_cases h : Valid y m 1
  · simp only [Option.bind_some, h, decide_true, if_true]
    obtain ⟨h1, h2, h3, h4, _, _⟩ := h
    have b1 := ah_bd y m; have b2 := ah_bd y (m + 1)
    rw [w64 (by omega) (by omega), ahead_f (by omega) (by omega), ahead_f (by omega) (by omega)]
    simp only [Option.bind_some]
    rw [w64 (by omega) (by omega)]; rfl
  · simp [h]
theorem refDays_f (y m : Int) : bellmanref05_Days.f y m = some (if Valid y m 1 then (mlen y m, 0) else (0, 1)) := by
  unfold bellmanref05_Days.f
  rw [refThere_f]
  by_cases h : Valid y m 1
  · simp only [Option.bind_some, h, decide_true, if_true]
    rw [month_f y h.2.2.1 h.2.2.2.1]; rfl
  · simp [h]
/-- the days ahead of a year, from the year 1 on -/
def yd (y : Int) : Int := 365 * (y - 1) + (y - 1) / 4 - (y - 1) / 100 + (y - 1) / 400
theorem yd_bd {y : Int} (h1 : 1 ≤ y) (h2 : y ≤ 10000) : 0 ≤ yd y ∧ yd y ≤ 3652059 := by unfold yd; omega
/-- a day's number, counted from January 1st of the year 1 -/
def num (y m d : Int) : Int := yd y + ah y m + d - 1
theorem td {a b : Int} (h : 0 ≤ a) : Int.tdiv a b = a / b := Int.tdiv_eq_ediv_of_nonneg h
theorem tm {a b : Int} (h : 0 ≤ a) : Int.tmod a b = a % b := Int.tmod_eq_emod_of_nonneg h
theorem number_f {y m d : Int} (h1 : 1 ≤ y) (h2 : y ≤ 9999) (h3 : 1 ≤ m) (h4 : m ≤ 12) (h5 : 0 ≤ d) (h6 : d ≤ 100) : civil_number.f y m d = some (num y m d) := by
  unfold civil_number.f
  rw [ahead_f (by omega) (by omega)]
  have b1 := ah_bd y m
  simp only [Option.bind_some]
  simp (disch := omega) only [w64, td]
  unfold num yd; rw [show 365 * (y - 1) + (y - 1) / 4 - (y - 1) / 100 + (y - 1) / 400 + ah y m + d - 1 = 365 * (y - 1) + (y - 1) / 4 - (y - 1) / 100 + (y - 1) / 400 + ah y m + d - 1 from rfl]
theorem refAhead_f {y : Int} (h1 : 1 ≤ y) (h2 : y ≤ 10000) : bellmanref05_ahead.f y = some (yd y) := by
  unfold bellmanref05_ahead.f yd
  simp (disch := omega) only [w64, td]
theorem refDay_l {y m : Int} (h4 : m ≤ 12) : ∀ (n k : Nat) (i s : Int), 1 ≤ i → i + n = m → n < k → 0 ≤ s → s + 31 * n ≤ 10000000 → bellmanref05_day.l0 k y m s i = some (s + (ah y m - ah y i)) := by
  intro n
  induction n with
  | zero =>
    intro k i s hi hn hk _ _
    obtain ⟨k, rfl⟩ : ∃ j, k = j + 1 := ⟨k - 1, by omega⟩
    obtain rfl : i = m := by omega
    simp only [bellmanref05_day.l0]; rw [if_neg (by omega)]; congr 1; omega
  | succ n ih =>
    intro k i s hi hn hk hs1 hs2
    obtain ⟨k, rfl⟩ : ∃ j, k = j + 1 := ⟨k - 1, by omega⟩
    simp only [bellmanref05_day.l0]
    have hb := mlen_bd y hi (show i ≤ 12 by omega)
    rw [if_pos (by omega), month_f y hi (by omega)]
    simp only [Option.bind_some]
    rw [w64 (by omega) (by omega), w64 (by omega) (by omega), ih k (i + 1) _ (by omega) (by omega) (by omega) (by omega) (by omega), ah_succ]
    congr 1; omega
theorem refDay_f {y m d : Int} {k : Nat} (hk : 13 ≤ k) (h1 : 1 ≤ y) (h2 : y ≤ 9999) (h3 : 1 ≤ m) (h4 : m ≤ 12) (h5 : 1 ≤ d) (h6 : d ≤ 100) : bellmanref05_day.f k y m d = some (num y m d) := by
  unfold bellmanref05_day.f
  rw [refAhead_f h1 (by omega)]
  have b1 := yd_bd h1 (show y ≤ 10000 by omega)
  simp only [Option.bind_some]
  rw [w64 (x := d - 1) (by omega) (by omega), w64 (by omega) (by omega), refDay_l h4 (m - 1).toNat k 1 _ (by omega) (by omega) (by omega) (by omega) (by omega), ah_one]
  unfold num; congr 1; omega
theorem num_bd {y m d : Int} (h : Valid y m d) : 0 ≤ num y m d ∧ num y m d ≤ 3653000 := by
  obtain ⟨h1, h2, h3, h4, h5, h6⟩ := h
  have b1 := yd_bd h1 (show y ≤ 10000 by omega)
  have b2 := ah_bd y m
  have b3 := mlen_bd y h3 h4
  unfold num; omega
theorem valid_31 {y m d : Int} (h : Valid y m d) : d ≤ 31 := by
  obtain ⟨h1, h2, h3, h4, h5, h6⟩ := h
  have b3 := mlen_bd y h3 h4
  omega
/-- the day of the week -/
def wday (y m d : Int) : Int := (num y m d + 1) % 7
theorem weekday_f (y m d : Int) : civil_Weekday.f y m d = some (if Valid y m d then (wday y m d, 0) else (0, 1)) := by
  unfold civil_Weekday.f
  rw [there_f]
  by_cases h : Valid y m d
  · have b := num_bd h
    have b3 := valid_31 h
    simp only [Option.bind_some, h, decide_true, if_true]
    obtain ⟨h1, h2, h3, h4, h5, h6⟩ := h
    rw [number_f h1 h2 h3 h4 (by omega) (by omega)]
    simp only [Option.bind_some]
    unfold civil_weekday.f
    rw [w64 (by omega) (by omega), tm (by omega)]; rfl
  · simp [h]
theorem refWeekday_f (y m d : Int) {k : Nat} (hk : 13 ≤ k) : bellmanref05_Weekday.f k y m d = some (if Valid y m d then (wday y m d, 0) else (0, 1)) := by
  unfold bellmanref05_Weekday.f
  rw [refThere_f]
  by_cases h : Valid y m d
  · have b := num_bd h
    have b3 := valid_31 h
    simp only [Option.bind_some, h, decide_true, if_true]
    obtain ⟨h1, h2, h3, h4, h5, h6⟩ := h
    rw [refDay_f hk h1 h2 h3 h4 (by omega) (by omega)]
    simp only [Option.bind_some]
    rw [w64 (by omega) (by omega), tm (by omega)]; rfl
  · simp [h]
/-- how many days the first day of a weekday is behind the month's first -/
def off (y m w : Int) : Int := (w - wday y m 1 + 7) % 7
/-- the n-th day of a weekday -/
def nth (y m w n : Int) : Int := if 1 + off y m w + 7 * (n - 1) ≤ mlen y m then 1 + off y m w + 7 * (n - 1) else 1 + off y m w + 7 * (n - 1) - 7
def NthOk (y m w n : Int) : Prop := Valid y m 1 ∧ 0 ≤ w ∧ w ≤ 6 ∧ 1 ≤ n ∧ n ≤ 5
instance (y m w n : Int) : Decidable (NthOk y m w n) := inferInstanceAs (Decidable (_ ∧ _))
theorem wday_bd (y m d : Int) : 0 ≤ wday y m d ∧ wday y m d ≤ 6 := by unfold wday; omega
theorem nth_f (y m w n : Int) {k : Nat} (hk : 1 ≤ k) : civil_Nth.f k y m w n = some (if NthOk y m w n then (nth y m w n, 0) else (0, 1)) := by
  obtain ⟨k, rfl⟩ : ∃ j, k = j + 1 := ⟨k - 1, by omega⟩
  unfold civil_Nth.f
  rw [weekday_f]
  by_cases h : Valid y m 1
  · simp only [Option.bind_some, h, if_true]
    by_cases a1 : w < 0
    · rw [if_pos a1]; rw [if_neg (by unfold NthOk; omega)]; simp [civil_Nth.j0]
    · rw [if_neg a1]
      by_cases a2 : w > 6
      · rw [if_pos a2]; rw [if_neg (by unfold NthOk; omega)]; simp [civil_Nth.j0]
      · rw [if_neg a2]
        by_cases a3 : n < 1
        · rw [if_pos a3]; rw [if_neg (by unfold NthOk; omega)]; simp [civil_Nth.j0]
        · rw [if_neg a3]
          by_cases a4 : n > 5
          · rw [if_neg (by unfold NthOk; omega)]; simp [civil_Nth.j0, a4]
          · rw [if_pos ⟨h, by omega⟩, decide_eq_false a4]
            simp only [civil_Nth.j0]
            rw [if_neg (by decide)]
            have b := wday_bd y m 1
            have e : wrap64 ((wrap64 (1 + (Int.tmod (wrap64 ((wrap64 (w - wday y m 1)) + 7)) 7))) + (wrap64 (7 * (wrap64 (n - 1))))) = 1 + off y m w + 7 * (n - 1) := by
              unfold off
              simp (disch := omega) only [w64, tm]
            rw [e, there_f]
            simp only [Option.bind_some]
            have o : 0 ≤ off y m w ∧ off y m w ≤ 6 := by unfold off; omega
            rw [w64 (x := 1 + off y m w + 7 * (n - 1) - 7) (by omega) (by omega)]
            obtain ⟨h1, h2, h3, h4, h5, h6⟩ := h
            unfold nth
            by_cases hl : 1 + off y m w + 7 * (n - 1) ≤ mlen y m
            · rw [decide_eq_true (show Valid _ _ _ by unfold Valid; omega), if_pos rfl, if_pos hl]
            · rw [decide_eq_false (show ¬ Valid _ _ _ by unfold Valid; omega), if_neg (by decide), if_neg hl]
  · rw [if_neg (fun z : NthOk y m w n => h z.1)]
    simp [h, civil_Nth.j0]
theorem wday_off (y m d : Int) : wday y m d = (wday y m 1 + d - 1) % 7 := by unfold wday num; omega
/-- how many days of the weekday are among the first j -/
def cnt (o j : Int) : Int := (j + 6 - o) / 7
theorem refNth_l {y m w n : Int} (hv : Valid y m 1) (hw : 0 ≤ w ∧ w ≤ 6) (hn : 1 ≤ n ∧ n ≤ 5) : ∀ (r k : Nat) (d s : Int), 1 ≤ d → d + r = mlen y m + 1 → r + 14 < k → s = min n (cnt (off y m w) (d - 1)) →
    bellmanref05_Nth.l0 k y m w n (if s = 0 then 0 else 1 + off y m w + 7 * (s - 1)) s d = some (if min n (cnt (off y m w) (mlen y m)) = 0 then 0 else 1 + off y m w + 7 * (min n (cnt (off y m w) (mlen y m)) - 1), 0) := by
  have b := wday_bd y m 1
  have o : 0 ≤ off y m w ∧ off y m w ≤ 6 := by unfold off; omega
  have lb := mlen_bd y hv.2.2.1 hv.2.2.2.1
  intro r
  induction r with
  | zero =>
    intro k d s h1 h2 hk hs
    obtain ⟨k, rfl⟩ : ∃ j, k = j + 1 := ⟨k - 1, by omega⟩
    simp only [bellmanref05_Nth.l0]
    rw [month_f y hv.2.2.1 hv.2.2.2.1]
    simp only [Option.bind_some]
    rw [if_neg (by omega)]
    have : d - 1 = mlen y m := by omega
    rw [hs, this]
  | succ r ih =>
    intro k d s h1 h2 hk hs
    obtain ⟨k, rfl⟩ : ∃ j, k = j + 1 := ⟨k - 1, by omega⟩
    simp only [bellmanref05_Nth.l0]
    rw [month_f y hv.2.2.1 hv.2.2.2.1]
    simp only [Option.bind_some]
    have hvd : Valid y m d := ⟨hv.1, hv.2.1, hv.2.2.1, hv.2.2.2.1, h1, by omega⟩
    rw [if_pos (by omega), refWeekday_f y m d (by omega)]
    simp only [Option.bind_some]
    rw [if_pos hvd]
    simp only
    rw [w64 (x := d + 1) (by omega) (by omega)]
    have key := wday_off y m d
    have st : wday y m d = w ↔ cnt (off y m w) d = cnt (off y m w) (d - 1) + 1 := by
      rw [key]; unfold cnt off; omega
    have st2 : ¬ wday y m d = w → cnt (off y m w) d = cnt (off y m w) (d - 1) := by
      rw [key]; unfold cnt off; omega
    have cb : 0 ≤ cnt (off y m w) (d - 1) ∧ cnt (off y m w) (d - 1) ≤ 6 := by unfold cnt; omega
    by_cases e : wday y m d = w
    · rw [if_pos e]
      have c1 := st.1 e
      by_cases e2 : s < n
      · rw [if_pos e2, w64 (x := s + 1) (by omega) (by omega)]
        have hs1 : s + 1 = min n (cnt (off y m w) (d + 1 - 1)) := by rw [show d + 1 - 1 = d by omega, c1]; omega
        have hd : d = 1 + off y m w + 7 * s := by
          have : s = cnt (off y m w) (d - 1) := by omega
          rw [this]
          rw [key] at e
          unfold cnt off at *; omega
        have := ih k (d + 1) (s + 1) (by omega) (by omega) (by omega) hs1
        rw [if_neg (show ¬ s + 1 = 0 by omega), show 1 + off y m w + 7 * (s + 1 - 1) = d by omega] at this
        exact this
      · rw [if_neg e2]
        exact ih k (d + 1) s (by omega) (by omega) (by omega) (by rw [show d + 1 - 1 = d by omega, c1]; omega)
    · rw [if_neg e]
      exact ih k (d + 1) s (by omega) (by omega) (by omega) (by rw [show d + 1 - 1 = d by omega, st2 e]; exact hs)
theorem refNth_f (y m w n : Int) {k : Nat} (hk : 60 ≤ k) : bellmanref05_Nth.f k y m w n = some (if NthOk y m w n then (nth y m w n, 0) else (0, 1)) := by
  obtain ⟨k, rfl⟩ : ∃ j, k = j + 1 := ⟨k - 1, by omega⟩
  unfold bellmanref05_Nth.f
  rw [refThere_f]
  by_cases h : Valid y m 1
  · simp only [Option.bind_some, h, decide_true, if_true]
    by_cases a1 : w < 0
    · rw [if_pos a1]; rw [if_neg (by unfold NthOk; omega)]; simp [bellmanref05_Nth.j0]
    · rw [if_neg a1]
      by_cases a2 : w > 6
      · rw [if_pos a2]; rw [if_neg (by unfold NthOk; omega)]; simp [bellmanref05_Nth.j0]
      · rw [if_neg a2]
        by_cases a3 : n < 1
        · rw [if_pos a3]; rw [if_neg (by unfold NthOk; omega)]; simp [bellmanref05_Nth.j0]
        · rw [if_neg a3]
          by_cases a4 : n > 5
          · rw [if_neg (by unfold NthOk; omega)]; simp [bellmanref05_Nth.j0, a4]
          · rw [if_pos ⟨h, by omega⟩, decide_eq_false a4]
            simp only [bellmanref05_Nth.j0]
            rw [if_neg (by decide)]
            have b := wday_bd y m 1
            have o : 0 ≤ off y m w ∧ off y m w ≤ 6 := by unfold off; omega
            have lb := mlen_bd y h.2.2.1 h.2.2.2.1
            have := refNth_l h (w := w) (n := n) (by omega) (by omega) (mlen y m).toNat k 1 0 (by omega) (by omega) (by omega) (by unfold cnt; omega)
            rw [if_pos rfl] at this
            rw [this]
            have cb : cnt (off y m w) (mlen y m) = 4 ∨ cnt (off y m w) (mlen y m) = 5 := by unfold cnt; omega
            rw [if_neg (by omega)]
            unfold nth
            have : (1 + off y m w + 7 * (n - 1) ≤ mlen y m) ↔ n ≤ cnt (off y m w) (mlen y m) := by unfold cnt; omega
            by_cases hl : 1 + off y m w + 7 * (n - 1) ≤ mlen y m
            · rw [if_pos hl]; have := this.1 hl; congr 2; omega
            · rw [if_neg hl]; have h3 : ¬ n ≤ cnt (off y m w) (mlen y m) := fun z => hl (this.2 z); congr 2; omega
  · rw [if_neg (fun z : NthOk y m w n => h z.1)]
    simp [h, bellmanref05_Nth.j0]
theorem lives_f : bellmanlaw05_lives.f 40 = some true := by kernel_rfl
theorem lives_any {k : Nat} (hk : 40 ≤ k) : bellmanlaw05_lives.f k = some true := by
  induction k with
  | zero => omega
  | succ k ih =>
    by_cases h : 40 ≤ k
    · exact bellmanlaw05_lives.mono k _ (ih h)
    · obtain rfl : k = 39 := by omega
      exact lives_f
theorem CivilMonths : bellmanlaw05_CivilMonths.Pure := by
  intro y m d w n _ _ _ _ _
  refine ⟨60, ?_⟩
  unfold bellmanlaw05_CivilMonths.f
  rw [days_f, refDays_f, weekday_f, refWeekday_f y m d (by decide), nth_f y m w n (by decide), refNth_f y m w n (by decide), lives_any (by decide)]
  simp
theorem CivilNth : bellmanlaw05_CivilNth.Pure := by
  intro y m w n _ _ _ _
  refine ⟨60, ?_⟩
  unfold bellmanlaw05_CivilNth.f
  rw [lives_any (by decide), nth_f y m w n (by decide)]
  simp only [Option.bind_some, if_true]
  by_cases h : NthOk y m w n
  · simp only [h, if_true]
    rw [weekday_f, days_f, nth_f y m w 1 (by decide)]
    obtain ⟨hv, hw0, hw1, hn0, hn1⟩ := h
    have h1 : NthOk y m w 1 := ⟨hv, hw0, hw1, by decide, by decide⟩
    have b := wday_bd y m 1
    have o : 0 ≤ off y m w ∧ off y m w ≤ 6 := by unfold off; omega
    have lb := mlen_bd y hv.2.2.1 hv.2.2.2.1
    have e1 : nth y m w 1 = 1 + off y m w := by unfold nth; rw [if_pos (by omega)]; omega
    have nb : 1 ≤ nth y m w n ∧ nth y m w n ≤ mlen y m ∧ mlen y m < (if n = 5 then nth y m w n + 7 else 1000) ∧ (n ≠ 5 → nth y m w n = 1 + off y m w + 7 * (n - 1)) ∧ ∃ q : Int, nth y m w n = 1 + off y m w + 7 * q := by
      unfold nth
      by_cases hl : 1 + off y m w + 7 * (n - 1) ≤ mlen y m
      · rw [if_pos hl]; exact ⟨by omega, by omega, by split <;> omega, fun _ => rfl, n - 1, rfl⟩
      · rw [if_neg hl]; exact ⟨by omega, by omega, by split <;> omega, fun _ => by omega, n - 2, by omega⟩
    obtain ⟨n1, n2, n3, n4, q, hq⟩ := nb
    have vd : Valid y m (nth y m w n) := ⟨hv.1, hv.2.1, hv.2.2.1, hv.2.2.2.1, n1, n2⟩
    have wd : wday y m (nth y m w n) = w := by
      rw [wday_off, hq]; unfold off at *; omega
    simp only [vd, hv, h1, if_true, Option.bind_some, wd, e1]
    rw [if_neg (by omega), decide_eq_false (by omega)]
    simp only [bellmanlaw05_CivilNth.j0]
    rw [if_neg (by decide)]
    by_cases h5 : n = 5
    · rw [if_pos h5]
      rw [if_pos h5] at n3
      rw [w64 (by omega) (by omega), if_pos (by omega), decide_eq_true n2]
    · rw [if_neg h5, w64 (x := n - 1) (by omega) (by omega), w64 (x := 7 * (n - 1)) (by omega) (by omega), w64 (by omega) (by omega), n4 h5]
      simp
  · simp [h]
theorem week_f {t : Int} (h1 : -62135596800 ≤ t) (h2 : t ≤ 253402300799) : civil_Week.f t = some ((t + 345600) % 604800 / 60, 0) := by
  unfold civil_Week.f civil_is.f
  rw [if_pos h1]
  simp only [Option.bind_some, decide_eq_true h2, if_true]
  rw [w64 (x := t + 345600) (by omega) (by omega)]
  by_cases hs : 0 ≤ t + 345600
  · rw [tm hs, if_neg (by omega), td (by omega), w64 (by omega) (by omega)]
  · have e : Int.tmod (t + 345600) 604800 = -((-(t + 345600)) % 604800) := by
      rw [← tm (show 0 ≤ -(t + 345600) by omega), Int.neg_tmod]; omega
    rw [e]
    by_cases hz : -((-(t + 345600)) % 604800) < 0
    · rw [if_pos hz, w64 (x := _ + 604800) (by omega) (by omega), td (by omega), w64 (by omega) (by omega)]
      congr 2; omega
    · rw [if_neg hz, td (by omega), w64 (by omega) (by omega)]
      congr 2; omega
theorem CivilOn : bellmanlaw05_CivilOn.Pure := by
  intro t _
  refine ⟨60, ?_⟩
  unfold bellmanlaw05_CivilOn.f
  rw [lives_any (by decide)]
  simp only [Option.bind_some, if_true]
  by_cases h1 : t < -62135596800
  · rw [if_pos h1]; simp [bellmanlaw05_CivilOn.j0]
  · rw [if_neg h1]
    by_cases h2 : t > 253401695999
    · rw [decide_eq_true h2]; simp [bellmanlaw05_CivilOn.j0]
    · rw [decide_eq_false h2]
      simp only [bellmanlaw05_CivilOn.j0]
      rw [if_neg (by decide), w64 (x := t + 60) (by omega) (by omega), w64 (x := t + 604800) (by omega) (by omega), w64 (x := t + 1) (by omega) (by omega)]
      rw [week_f (by omega) (by omega), week_f (t := t + 60) (by omega) (by omega), week_f (t := t + 604800) (by omega) (by omega), week_f (t := t + 1) (by omega) (by omega)]
      simp only [Option.bind_some, if_true]
      rw [if_pos (by omega), if_pos (by omega), w64 (by omega) (by omega), tm (by omega), if_pos (by omega), if_pos (by omega)]
      by_cases e : (t + 1 + 345600) % 604800 / 60 = (t + 345600) % 604800 / 60
      · rw [if_pos e]
      · rw [if_neg e]; simp only [Option.some.injEq, beq_iff_eq]; omega
end Go.Proofs.YtcbdihhnoicabaaDoor.CivPure
