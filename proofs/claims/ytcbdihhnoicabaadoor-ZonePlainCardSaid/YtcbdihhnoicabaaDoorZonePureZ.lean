/- ZonePlain, as a statement over numbers: without a summer each local moment has one time. -/
import Derived.Test.YtcbdihhnoicabaaDoorPZx0
import Derived.Test.YtcbdihhnoicabaaDoorPZx3
import Derived.Test.YtcbdihhnoicabaaDoorPZx4
import Derived.Test.YtcbdihhnoicabaaDoorPZx5
import Derived.Test.YtcbdihhnoicabaaDoorPZx6
import Derived.Test.YtcbdihhnoicabaaDoorPZx8
import Derived.Test.YtcbdihhnoicabaaDoorPZx9
import Derived.Test.YtcbdihhnoicabaaDoorCivOfZ
namespace Go.Proofs.YtcbdihhnoicabaaDoor.ZonePureZ
open Go.RowKit Go.Proofs.YtcbdihhnoicabaaDoor.PZ Go.Proofs.YtcbdihhnoicabaaDoor.Hand Go.Proofs.YtcbdihhnoicabaaDoor.CivZ Go.Proofs.YtcbdihhnoicabaaDoorW.PrintWords Go.Proofs.YtcbdihhnoicabaaDoorW.PrintLast
theorem lives_f : bellmanlaw06_lives.f 60 = some true := by kernel_rfl
theorem lives_any {k : Nat} (hk : 60 ≤ k) : bellmanlaw06_lives.f k = some true := by
  induction k with
  | zero => omega
  | succ k ih =>
    by_cases h : 60 ≤ k
    · exact bellmanlaw06_lives.mono k _ (ih h)
    · obtain rfl : k = 59 := by omega
      exact lives_f
theorem check_f (b : Int) {k : Nat} (hk : 1 ≤ k) : zone_Check.f k b 0 0 0 0 0 0 0 0 0 = some (if -900 ≤ b ∧ b ≤ 900 then 0 else 2) := by
  obtain ⟨k, rfl⟩ : ∃ j, k = j + 1 := ⟨k - 1, by omega⟩
  unfold zone_Check.f
  by_cases h1 : b ≥ -900
  · rw [if_pos h1]
    by_cases h2 : b ≤ 900
    · rw [if_pos h2, if_pos (by decide), if_pos ⟨h1, h2⟩]; simp [zone_Check.j0]
    · rw [if_neg h2, if_neg (by omega)]; simp [zone_Check.j0]
  · rw [if_neg h1, if_neg (by omega)]; simp [zone_Check.j0]
theorem open_f {b t : Int} {k : Nat} (hk : 1 ≤ k) : zone_open.f k b 0 0 0 0 0 0 0 0 0 t = some (if -900 ≤ b ∧ b ≤ 900 then (if -62135596800 ≤ t ∧ t ≤ 253402300799 then (b, 0, 0, 0, 0, 0, 0, 0, 0, 0, 0) else (0, 0, 0, 0, 0, 0, 0, 0, 0, 0, 1)) else (0, 0, 0, 0, 0, 0, 0, 0, 0, 0, 2)) := by
  unfold zone_open.f
  rw [check_f b hk]
  by_cases h : -900 ≤ b ∧ b ≤ 900
  · simp only [h, and_self, if_true, Option.bind_some]
    by_cases h1 : t < -62135596800
    · rw [if_pos h1, if_neg (by omega)]
    · rw [if_neg h1]
      by_cases h2 : t > 253402300799
      · rw [if_pos h2, if_neg (by omega)]
      · rw [if_neg h2, if_pos (by omega)]
  · simp [h]
theorem offset_f (b t : Int) (k : Nat) : zone_clock_offset.f k b 0 0 0 0 0 0 0 0 0 t = some b := by
  unfold zone_clock_offset.f; simp
theorem offsetOf_f (b t : Int) {k : Nat} (hk : 1 ≤ k) : zone_Offset.f k b 0 0 0 0 0 0 0 0 0 t = some (if -900 ≤ b ∧ b ≤ 900 then (if -62135596800 ≤ t ∧ t ≤ 253402300799 then (b, 0) else (0, 1)) else (0, 2)) := by
  unfold zone_Offset.f
  rw [open_f hk]
  by_cases h : -900 ≤ b ∧ b ≤ 900
  · rw [if_pos h, if_pos h]
    by_cases h2 : -62135596800 ≤ t ∧ t ≤ 253402300799
    · rw [if_pos h2, if_pos h2]; simp [offset_f]
    · rw [if_neg h2, if_neg h2]; simp
  · rw [if_neg h, if_neg h]; simp
theorem local_bad {b t : Int} {k : Nat} (hk : 1 ≤ k) (hb : -900 ≤ b ∧ b ≤ 900) (h2 : ¬ (-62135596800 ≤ t ∧ t ≤ 253402300799)) : zone_Local.f k b 0 0 0 0 0 0 0 0 0 t = some (0, 0, 0, 0, 0, 0, 0, 1) := by
  unfold zone_Local.f
  rw [open_f hk, if_pos hb, if_neg h2]; simp
theorem local_f {b t : Int} {k : Nat} (hk : 1 ≤ k) (hb : -900 ≤ b ∧ b ≤ 900) (h2 : -62135596800 ≤ t ∧ t ≤ 253402300799) : zone_Local.f k b 0 0 0 0 0 0 0 0 0 t = civil_Of.f k (t + 60 * b) := by
  unfold zone_Local.f
  rw [open_f hk, if_pos hb, if_pos h2]
  simp only [Option.bind_some, if_true, offset_f]
  rw [w64 (x := 60 * b) (by omega) (by omega), w64 (by omega) (by omega)]
  cases civil_Of.f k (t + 60 * b) <;> rfl
theorem times_f {b y m d h mi s t w : Int} {k : Nat} (hk : 6 ≤ k) (hb : -900 ≤ b ∧ b ≤ 900) (h2 : -62135596800 ≤ t ∧ t ≤ 253402300799) (hv : Valid y m d) (hc : Clock h mi s) (hs : secs y m d h mi s = t + 60 * b) :
    zone_Times.f k b 0 0 0 0 0 0 0 0 0 y m d h mi s w = some ([t], 0) := by
  obtain ⟨k, rfl⟩ : ∃ j, k = j + 4 := ⟨k - 4, by omega⟩
  unfold zone_Times.f
  rw [check_f b (by omega), if_pos hb, time_f hv hc, hs]
  simp only [Option.bind_some, if_true, Int.add_zero]
  rw [w64 (x := b) (by omega) (by omega)]
  have e : wrap64 (t + 60 * b - wrap64 (60 * b)) = t := by rw [w64 (x := 60 * b) (by omega) (by omega), w64 (by omega) (by omega)]; omega
  have r0 : rd [b, b] 0 = b := rfl
  have r1 : rd [b, b] 1 = b := rfl
  have w1 : wrap64 (0 + 1) = 1 := w64 (by omega) (by omega)
  have w2 : wrap64 (1 + 1) = 2 := w64 (by omega) (by omega)
  simp only [zone_Times.l0, List.length_cons, List.length_nil, r0, w1, r1, w2, e]
  have o : ∀ j, 1 ≤ j → zone_open.f j b 0 0 0 0 0 0 0 0 0 t = some (b, 0, 0, 0, 0, 0, 0, 0, 0, 0, 0) := fun j hj => by rw [open_f hj, if_pos hb, if_pos h2]
  rw [o (k + 3) (by omega), o (k + 2) (by omega)]
  simp [offset_f]
theorem same_one (t : Int) {k : Nat} (hk : 2 ≤ k) : bellmanref01_Same.f k [t] [t] = some true := by
  obtain ⟨k, rfl⟩ : ∃ j, k = j + 2 := ⟨k - 2, by omega⟩
  unfold bellmanref01_Same.f
  have w1 : wrap64 1 = 1 := w64 (by omega) (by omega)
  simp [bellmanref01_Same.l0, w1]
theorem ZonePlain : bellmanlaw06_ZonePlain.Pure := by
  intro b t hb0 _
  refine ⟨60, ?_⟩
  unfold bellmanlaw06_ZonePlain.f
  rw [lives_any (by decide), offsetOf_f b t (by decide)]
  simp only [Option.bind_some, if_true]
  by_cases hb : -900 ≤ b ∧ b ≤ 900
  · rw [if_pos hb]
    by_cases h2 : -62135596800 ≤ t ∧ t ≤ 253402300799
    · rw [if_pos h2]
      simp only [if_true]
      rw [local_f (by decide) hb h2, w64 (x := 60 * b) (by omega) (by omega), w64 (x := t + 60 * b) (by omega) (by omega)]
      by_cases h3 : -62135596800 ≤ t + 60 * b ∧ t + 60 * b ≤ 253402300799
      · rw [local_f (by decide) (by decide) h3]
        obtain ⟨y, m, d, h, mi, s, e, hv, hc, hs⟩ := of_f (k := 60) (by decide) h3.1 h3.2
        rw [show t + 60 * b + 60 * 0 = t + 60 * b by omega, e]
        simp only [Option.bind_some, if_true]
        rw [times_f (by decide) hb h2 hv hc hs]
        simp [same_one]
      · rw [local_bad (by decide) (by decide) h3, of_bad 60 (by omega)]
        simp
    · rw [if_neg h2]; simp
  · rw [if_neg hb]; simp
end Go.Proofs.YtcbdihhnoicabaaDoor.ZonePureZ
