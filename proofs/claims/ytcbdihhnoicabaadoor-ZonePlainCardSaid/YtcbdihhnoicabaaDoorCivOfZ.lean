/- What civil's Of and Time compute: a time's moment, and back. -/
import Derived.Test.YtcbdihhnoicabaaDoorPZx0
import Derived.Test.YtcbdihhnoicabaaDoorPZx3
import Derived.Test.YtcbdihhnoicabaaDoorPZx4
import Derived.Test.YtcbdihhnoicabaaDoorCivZ
namespace Go.Proofs.YtcbdihhnoicabaaDoor.CivZ
open Go.RowKit Go.Proofs.YtcbdihhnoicabaaDoor.PZ Go.Proofs.YtcbdihhnoicabaaDoor.Hand Go.Proofs.YtcbdihhnoicabaaDoorW.PrintWords Go.Proofs.YtcbdihhnoicabaaDoorW.PrintLast
/-- what 'Of' tells: a time's moment -/
theorem longB_pos {y : Int} (h : 0 ≤ y) : longB y = true ↔ y % 400 = 0 ∨ (y % 100 ≠ 0 ∧ y % 4 = 0) := by
  unfold longB
  rw [tm h, tm h, tm h]
  by_cases h1 : y % 400 = 0
  · simp [h1]
  · rw [if_neg h1]
    by_cases h2 : y % 100 = 0
    · rw [if_pos h2]; simp [h1, h2]
    · rw [if_neg h2]; simp [h1, h2]
theorem ah_13 (y : Int) : ah y 13 = if longB y = true then 366 else 365 := by
  unfold ah; cases longB y <;> simp [beforeAt, beforeL]
theorem mn_eq (a b : Int) : mn a b = min a b := by unfold mn; omega
theorem mx_eq (a b : Int) : mx a b = max a b := by unfold mx; omega
theorem split_f {n : Int} (h0 : 0 ≤ n) (h1 : n ≤ 3652058) : ∃ y left : Int, civil_split.f n = some (y, left) ∧ 1 ≤ y ∧ y ≤ 9999 ∧ 0 ≤ left ∧ left < ah y 13 ∧ yd y + left = n := by
  have hy : ∃ a r c r1 q r2 j : Int, a = n / 146097 ∧ r = n % 146097 ∧ c = min 3 (r / 36524) ∧ r1 = r - c * 36524 ∧ q = r1 / 1461 ∧ r2 = r1 - q * 1461 ∧ j = min 3 (r2 / 365) := ⟨_, _, _, _, _, _, _, rfl, rfl, rfl, rfl, rfl, rfl, rfl⟩
  obtain ⟨a, r, c, r1, q, r2, j, ha, hr, hc, hr1, hq, hr2, hj⟩ := hy
  have a0 : 0 ≤ a ∧ a ≤ 24 := by omega
  have c0 : 0 ≤ c ∧ c ≤ 3 := by omega
  have r10 : 0 ≤ r1 ∧ (c < 3 → r1 < 36524) ∧ r1 ≤ 36524 := by omega
  have q0 : 0 ≤ q ∧ q ≤ 24 := by omega
  have r20 : 0 ≤ r2 ∧ r2 ≤ 1460 ∧ (c < 3 → q = 24 → r2 < 1460) := by omega
  have j0 : 0 ≤ j ∧ j ≤ 3 := by omega
  have l0 : 0 ≤ r2 - j * 365 ∧ (j < 3 → r2 - j * 365 < 365) ∧ r2 - j * 365 ≤ 365 := by omega
  refine ⟨400 * a + 100 * c + 4 * q + j + 1, r2 - j * 365, ?_, by omega, by omega, by omega, ?_, ?_⟩
  · unfold civil_split.f
    simp only [mn_eq, tm h0, td h0]
    rw [← hr, ← ha]
    rw [td (show 0 ≤ r by omega)]
    simp (disch := omega) only [w64]
    rw [← hc, ← hr1, td (show 0 ≤ r1 by omega), w64 (x := r1 / 1461) (by omega) (by omega), ← hq]
    simp (disch := omega) only [w64]
    rw [← hr2, td (show 0 ≤ r2 by omega)]
    simp (disch := omega) only [w64]
    rw [← hj]
  · rw [ah_13]
    by_cases hl : longB (400 * a + 100 * c + 4 * q + j + 1) = true
    · rw [if_pos hl]; omega
    · rw [if_neg hl]
      rw [longB_pos (by omega)] at hl
      clear hr hc hr1 hq hr2 hj ha
      by_cases hj3 : j < 3
      · exact l0.2.1 hj3
      · obtain rfl : j = 3 := by omega
        have m4 : (400 * a + 100 * c + 4 * q + 3 + 1) % 4 = 0 := by omega
        by_cases hq : q = 24
        · subst hq
          by_cases hc3 : c < 3
          · have := r20.2.2 hc3 rfl; omega
          · obtain rfl : c = 3 := by omega
            exact absurd (.inl (by omega)) hl
        · exact absurd (.inr ⟨by omega, m4⟩) hl
  · have k1 : (400 * a + 100 * c + 4 * q + j + 1 - 1) / 4 = 100 * a + 25 * c + q := by omega
    have k2 : (400 * a + 100 * c + 4 * q + j + 1 - 1) / 100 = 4 * a + c := by omega
    have k3 : (400 * a + 100 * c + 4 * q + j + 1 - 1) / 400 = a := by omega
    unfold yd; rw [k1, k2, k3]; omega
theorem ofLoop_f {n q y left : Int} (hn : 0 ≤ n ∧ n ≤ 3652058) (hl0 : 0 ≤ left) (hl1 : left < ah y 13) : ∀ (r k : Nat) (m : Int), 1 ≤ m → m + r = 12 → r + 1 < k → ah y m ≤ left →
    ∃ m', 1 ≤ m' ∧ m' ≤ 12 ∧ ah y m' ≤ left ∧ left < ah y (m' + 1) ∧ civil_Of.l0 k n q y left m = some (y, m', left - ah y m' + 1, wrap64 (Int.tdiv q 3600), wrap64 (Int.tdiv (Int.tmod q 3600) 60), Int.tmod q 60, (n + 1) % 7, 0) := by
  intro r
  induction r with
  | zero =>
    intro k m h1 h2 hk ha
    obtain ⟨k, rfl⟩ : ∃ j, k = j + 1 := ⟨k - 1, by omega⟩
    obtain rfl : m = 12 := by omega
    refine ⟨12, by decide, by decide, ha, hl1, ?_⟩
    simp only [civil_Of.l0]
    rw [w64 (x := 12 + 1) (by decide) (by decide), ahead_f (by decide) (by decide), ahead_f (by decide) (by decide)]
    simp only [Option.bind_some]
    have b := ah_bd y 12
    have b2 := ah_bd y 13
    rw [if_neg (show ¬ left ≥ ah y (12 + 1) from by have : (12 : Int) + 1 = 13 := rfl; rw [this]; omega)]
    unfold civil_weekday.f
    simp only [Option.bind_some]
    rw [w64 (x := n + 1) (by omega) (by omega), tm (show 0 ≤ n + 1 by omega), w64 (x := left - ah y 12) (by omega) (by omega), w64 (by omega) (by omega)]
  | succ r ih =>
    intro k m h1 h2 hk ha
    obtain ⟨k, rfl⟩ : ∃ j, k = j + 1 := ⟨k - 1, by omega⟩
    have b := ah_bd y m
    have b2 := ah_bd y (m + 1)
    by_cases hc : left ≥ ah y (m + 1)
    · obtain ⟨m', g1, g2, g3, g4, g5⟩ := ih k (m + 1) (by omega) (by omega) (by omega) hc
      refine ⟨m', g1, g2, g3, g4, ?_⟩
      simp only [civil_Of.l0]
      rw [w64 (x := m + 1) (by omega) (by omega), ahead_f (by omega) (by omega)]
      simp only [Option.bind_some]
      rw [if_pos hc]; exact g5
    · refine ⟨m, h1, by omega, ha, by omega, ?_⟩
      simp only [civil_Of.l0]
      have b3 := ah_bd y 13
      rw [w64 (x := m + 1) (by omega) (by omega), ahead_f (by omega) (by omega), ahead_f (by omega) (by omega)]
      simp only [Option.bind_some]
      rw [if_neg hc]
      unfold civil_weekday.f
      simp only [Option.bind_some]
      rw [w64 (x := n + 1) (by omega) (by omega), tm (show 0 ≤ n + 1 by omega), w64 (x := left - ah y m) (by omega) (by omega), w64 (by omega) (by omega)]
def secs (y m d h mi s : Int) : Int := -62135596800 + 86400 * num y m d + 3600 * h + 60 * mi + s
def Clock (h mi s : Int) : Prop := 0 ≤ h ∧ h ≤ 23 ∧ 0 ≤ mi ∧ mi ≤ 59 ∧ 0 ≤ s ∧ s ≤ 59
theorem of_f {t : Int} {k : Nat} (hk : 14 ≤ k) (h0 : -62135596800 ≤ t) (h1 : t ≤ 253402300799) :
    ∃ y m d h mi s : Int, civil_Of.f k t = some (y, m, d, h, mi, s, wday y m d, 0) ∧ Valid y m d ∧ Clock h mi s ∧ secs y m d h mi s = t := by
  unfold civil_Of.f civil_is.f
  rw [if_pos h0]
  simp only [Option.bind_some, decide_eq_true h1, if_true]
  rw [w64 (x := t + 62135596800) (by omega) (by omega), td (by omega), tm (by omega), w64 (by omega) (by omega)]
  obtain ⟨y, left, e, y1, y2, l1, l2, hyd⟩ := split_f (n := (t + 62135596800) / 86400) (by omega) (by omega)
  rw [e]
  simp only [Option.bind_some]
  obtain ⟨m, m1, m2, m3, m4, e2⟩ := ofLoop_f (n := (t + 62135596800) / 86400) (q := (t + 62135596800) % 86400) (by omega) l1 l2 11 k 1 (by decide) (by decide) (by omega) (by rw [ah_one]; omega)
  rw [e2, td (by omega), tm (by omega), tm (by omega), td (by omega), w64 (by omega) (by omega), w64 (by omega) (by omega)]
  have en : num y m (left - ah y m + 1) = (t + 62135596800) / 86400 := by unfold num; omega
  refine ⟨y, m, left - ah y m + 1, (t + 62135596800) % 86400 / 3600, (t + 62135596800) % 86400 % 3600 / 60, (t + 62135596800) % 86400 % 60, ?_, ⟨y1, y2, m1, m2, by omega, by unfold mlen; omega⟩, ⟨?_, ?_, ?_, ?_, ?_, ?_⟩, ?_⟩
  · unfold wday; rw [en]
  all_goals first | omega | (unfold secs; rw [en]; omega)
theorem of_bad {t : Int} (k : Nat) (h : t < -62135596800 ∨ 253402300799 < t) : civil_Of.f k t = some (0, 0, 0, 0, 0, 0, 0, 1) := by
  unfold civil_Of.f civil_is.f
  by_cases h0 : t ≥ -62135596800
  · rw [if_pos h0, decide_eq_false (by omega)]; rfl
  · rw [if_neg h0]; rfl
theorem time_f {y m d h mi s : Int} (hv : Valid y m d) (hc : Clock h mi s) (w : Int) : civil_Time.f y m d h mi s w = some (secs y m d h mi s, 0) := by
  unfold civil_Time.f
  rw [there_f, decide_eq_true hv]
  have b := num_bd hv
  have b3 := valid_31 hv
  obtain ⟨c1, c2, c3, c4, c5, c6⟩ := hc
  obtain ⟨h1, h2, h3, h4, h5, h6⟩ := hv
  simp only [Option.bind_some, if_true, mn_eq, mx_eq]
  rw [if_neg (by omega), if_neg (by omega), if_neg (by omega), number_f h1 h2 h3 h4 (by omega) (by omega)]
  simp only [Option.bind_some]
  simp (disch := omega) only [w64]
  unfold secs; congr 2; omega
end Go.Proofs.YtcbdihhnoicabaaDoor.CivZ
