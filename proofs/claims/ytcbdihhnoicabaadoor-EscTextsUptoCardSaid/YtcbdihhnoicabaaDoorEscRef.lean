/- The reference's byte for a note: the same bytes as esc's. -/
import Derived.Test.YtcbdihhnoicabaaDoorEscNames
namespace Go.Proofs.YtcbdihhnoicabaaDoor.Esc
open Go.RowKit Go.Proofs.YtcbdihhnoicabaaDoor.Bld Go.Proofs.YtcbdihhnoicabaaDoorW.PrintWords
def RefAt (n : Nat) (w : World) : Prop := Calls Tryd.prog 52 #[.int .u8 n] w fun e w' => e = .returned (.string ⟨(pushN n).toArray⟩) ∧ Below w.heap.size w w'
set_option maxHeartbeats 4000000 in
set_option maxRecDepth 100000 in
theorem ref_ctl (n : Nat) (h1 : n ≠ 10) (h2 : n ≠ 9) (h : n < 32 ∨ n = 127) (w : World) : RefAt n w := by
  have : n = 0 ∨ n = 1 ∨ n = 2 ∨ n = 3 ∨ n = 4 ∨ n = 5 ∨ n = 6 ∨ n = 7 ∨ n = 8 ∨ n = 11 ∨ n = 12 ∨ n = 13 ∨ n = 14 ∨ n = 15 ∨ n = 16 ∨ n = 17 ∨ n = 18 ∨ n = 19 ∨ n = 20 ∨ n = 21 ∨ n = 22 ∨ n = 23 ∨ n = 24 ∨ n = 25 ∨ n = 26 ∨ n = 27 ∨ n = 28 ∨ n = 29 ∨ n = 30 ∨ n = 31 ∨ n = 127 := by omega
  clear h h1 h2
  unfold RefAt
  rcases this with rfl | rfl | rfl | rfl | rfl | rfl | rfl | rfl | rfl | rfl | rfl | rfl | rfl | rfl | rfl | rfl | rfl | rfl | rfl | rfl | rfl | rfl | rfl | rfl | rfl | rfl | rfl | rfl | rfl | rfl | rfl
  all_goals
    go_enter Tryd.func52, Tryd.ntmps52
    go_wp2
    go_quiet (fail)
    go_wp2
    go_ret
    exact ⟨rfl, Drawn0.below (.mk ⟨_, rfl⟩)⟩
set_option maxHeartbeats 2000000 in
set_option maxRecDepth 100000 in
theorem ref_any (n : Nat) (hn : n < 256) (w : World) : RefAt n w := by
  by_cases c1 : n = 10
  · subst c1
    unfold RefAt
    go_enter Tryd.func52, Tryd.ntmps52
    go_wp2
    go_ret
    exact ⟨rfl, Below.refl _ _⟩
  by_cases c2 : n = 9
  · subst c2
    unfold RefAt
    go_enter Tryd.func52, Tryd.ntmps52
    go_wp2
    go_ret
    exact ⟨rfl, Below.refl _ _⟩
  by_cases c3 : n < 32 ∨ n = 127
  · exact ref_ctl n c1 c2 c3 w
  by_cases c4 : n = 34
  · subst c4
    unfold RefAt
    go_enter Tryd.func52, Tryd.ntmps52
    go_wp2
    go_ret
    exact ⟨rfl, Below.refl _ _⟩
  by_cases c5 : n = 92
  · subst c5
    unfold RefAt
    go_enter Tryd.func52, Tryd.ntmps52
    go_wp2
    go_ret
    exact ⟨rfl, Below.refl _ _⟩
  have HE := Lib.hid (show pushN n = [UInt8.ofNat n] by unfold pushN; rw [if_neg c1, if_neg c2, if_neg c3, if_neg (by omega)])
  have t1 : ((n : Int) == 10) = false := by rw [beq_eq_false_iff_ne]; omega
  have t2 : ((n : Int) == 9) = false := by rw [beq_eq_false_iff_ne]; omega
  have t3 : 32 ≤ n := by omega
  have t4 : ((n : Int) == 127) = false := by rw [beq_eq_false_iff_ne]; omega
  have t5 : ((n : Int) == 34) = false := by rw [beq_eq_false_iff_ne]; omega
  have t6 : ((n : Int) == 92) = false := by rw [beq_eq_false_iff_ne]; omega
  clear c1 c2 c3 c4 c5
  unfold RefAt
  go_enter Tryd.func52, Tryd.ntmps52
  go_wp2_with (first | ((with_reducible refine gate_dst (N := 33) rfl ?_); refine Kd.R_lit (Kd.int .u8) _ 5 ?hg (N := 33) ?hd (xs := ([(n : Int)] : List Int)) (inner := [.int .u8 n]) (ok := fun _ => True) (okp := fun _ => True) ?hr ?hp (fun _ hk => hk) trivial (Below.refl _ _) (Nat.le_refl _) (by simp) ?_; (case hd => rfl); (case hg => rfl); (case hr => first | (go_simp; done) | (go_simp; rfl)); (case hp => exact (Reps.one (show Kd.M (Kd.int .u8) _ _ _ (n : Int) [.int .u8 n] from rfl) (Reps.none _ _))); intro v105 w7 ho8 hb hg_ hnew_; clear hg_ hnew_; have hcv9 := own_string (P := Tryd.prog) Tryd.underlying65 Tryd.underlying5 Tryd.underlying9 (Kd.own_of_R ho8)))
  go_ret
  exact ⟨by rw [HE.out]; simp [strOfNums, UInt8.ofNat], hb⟩
def bellmanref13_push.f (a0 : Int) : Option ByteArray := if 0 ≤ a0 ∧ a0 < 256 then some ⟨(pushN a0.toNat).toArray⟩ else none
theorem bellmanref13_push.calls (a0 : Int) (r : ByteArray) (w : World) (h : bellmanref13_push.f a0 = some r) :
    Calls Tryd.prog 52 #[.int .u8 a0] w fun e w' => e = .returned (.string r) ∧ Below w.heap.size w w' := by
  unfold bellmanref13_push.f at h
  by_cases hc : 0 ≤ a0 ∧ a0 < 256
  · rw [if_pos hc] at h
    obtain rfl := Option.some.inj h
    have := ref_any a0.toNat (by omega) w
    unfold RefAt at this
    rw [Int.toNat_of_nonneg hc.1] at this
    exact this
  · rw [if_neg hc] at h; cases h
end Go.Proofs.YtcbdihhnoicabaaDoor.Esc
