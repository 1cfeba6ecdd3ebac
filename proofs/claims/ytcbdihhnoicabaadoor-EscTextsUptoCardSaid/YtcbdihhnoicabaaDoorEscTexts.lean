/- esc.From at every text; esc.Name and esc.Named over the listed table of names. -/
import Derived.Test.YtcbdihhnoicabaaDoorEscNoted
import Derived.Test.YtcbdihhnoicabaaDoorShort
namespace Go.Proofs.YtcbdihhnoicabaaDoor.Esc
open Go.RowKit Go.Proofs.YtcbdihhnoicabaaDoor.Bld Go.Proofs.YtcbdihhnoicabaaDoorW.PrintWords
theorem str_eq {x : ByteArray} {l : List UInt8} (h : x.data.toList = l) : x = ⟨l.toArray⟩ := by obtain ⟨⟨y⟩⟩ := x; subst h; rfl
theorem cut_eq (l : List UInt8) (n : Nat) : (⟨l.toArray⟩ : ByteArray).extract n l.length = ⟨(l.drop n).toArray⟩ := by
  refine str_eq ?_
  rw [Lib.extract_data, List.take_of_length_le (by simp)]
theorem isB_below {B b : Nat} {bs : List Value} {w w' : World} (h : IsB B b bs w) (k : Below w.heap.size w w') : IsB B b bs w' := by
  rcases h with ⟨hB, v, hbk, ⟨h1, h2⟩, hne⟩ | ⟨hB, v, hbk, ⟨h1, h2⟩, hne⟩
  · refine .inl ⟨hB, v, blk_below hbk k, ⟨h1, ?_⟩, hne⟩
    rcases h2 with h2 | ⟨g, cap, cur, fz, hv, hg, hr, rest⟩
    · exact .inl h2
    · exact .inr ⟨g, cap, cur, fz, hv, hg, blk_below hr k, rest⟩
  · refine .inr ⟨hB, v, blk_below hbk k, ⟨h1, ?_⟩, hne⟩
    rcases h2 with h2 | ⟨g, cap, cur, fz, hv, hg, hr, rest⟩
    · exact .inl h2
    · exact .inr ⟨g, cap, cur, fz, hv, hg, blk_below hr k, rest⟩
def StepAt (c : Int) (f : FuncId) : Prop := ∀ (s : ByteArray) (a : UInt8) (t : List UInt8), s.data.toList = a :: t → s.size ≤ 140737488351232 → ∀ w : World,
  Calls Tryd.prog f #[.string s] w fun e w' => e = .returned (.tuple #[.int .u8 (stepF c s.data.toList).1.toNat, .int .i64 (stepF c s.data.toList).2]) ∧ Below w.heap.size w w'
theorem step1 : StepAt 1 55 := by
  intro s a t hs hm w
  refine (noted_any s a t hs hm w).mono ?_
  rintro e w' ⟨rfl, k, rfl⟩
  exact ⟨rfl, (Drawn0.mk ⟨k, rfl⟩ : Drawn0 w _).below⟩
theorem step2 : StepAt 2 56 := fun s a t hs _ w => mailed_any s a t hs w
theorem step3 : StepAt 3 57 := by
  intro s a t hs hm w
  refine (short_any s a t hs w).mono ?_
  rintro e w' ⟨rfl, rfl⟩
  exact ⟨rfl, Below.refl _ _⟩
theorem fromK_nil (c : Int) (k : Nat) : fromK c (k + 1) [] = some [] := by simp [fromK]
theorem fromK_step {c : Int} {k : Nat} {l : List UInt8} (h : l ≠ []) (h2 : (stepF c l).2 ≠ 0) : fromK c (k + 1) l = (fromK c k (l.drop (stepF c l).2)).map ((stepF c l).1 :: ·) := by
  simp only [fromK]; rw [if_neg h, if_neg h2]
theorem fromK_bad {c : Int} {k : Nat} {l : List UInt8} (h : l ≠ []) (h2 : (stepF c l).2 = 0) : fromK c (k + 1) l = none := by
  simp only [fromK]; rw [if_neg h, if_pos h2]
/-- what From tells -/
def fromR (c : Int) (l : List UInt8) : List UInt8 × Int := match fromK c (l.length + 1) l with
  | some r => (r, 0)
  | none => ([], 7)
set_option maxHeartbeats 4000000 in
set_option maxRecDepth 100000 in
theorem from_note (s : ByteArray) (hs : s.size ≤ 140737488351232) (w : World) :
    Calls Tryd.prog 22 #[.int .u8 1, .string s] w fun e w' => e = .returned (.tuple #[.string ⟨(fromR 1 s.data.toList).1.toArray⟩, .int .i64 (fromR 1 s.data.toList).2]) ∧ Below w.heap.size w w' := by
  have h0 := newB w
  have hl := size_of (s := s) rfl
  go_enter Tryd.func22, Tryd.ntmps22
  go_wp2_with fail
  refine (is_any 1 (by decide) _).mono ?_
  rintro e w1 ⟨rfl, rfl⟩
  go_wp2
  go_loopw [1] (fun v wr => ∃ l acc : List UInt8, v = .string ⟨l.toArray⟩ ∧ Aside0 (IsB w.heap.size w.heap.size (Lib.byteCells acc) wr) ∧ Aside0 (Below w.heap.size w wr) ∧ Aside0 (acc.length + l.length ≤ s.size ∧ ∃ d, fromK 1 (s.size + 1) s.data.toList = (fromK 1 (d + l.length + 1) l).map (acc ++ ·))) (fun v _ => match v with | .string x => x.size | _ => 0)
  case atStart => exact ⟨s.data.toList, [], by simp, ⟨h0⟩, ⟨(Below.refl _ w).alloc (Nat.le_refl _) _⟩, ⟨(by rw [hl]; exact Nat.le_of_eq (Nat.zero_add _)), 0, (by rw [hl, Nat.zero_add]; cases fromK 1 _ s.data.toList <;> rfl)⟩⟩
  case round =>
    obtain ⟨l, acc, rfl, ⟨hi⟩, ⟨hb⟩, HF⟩ := hrel
    have hz := hb.size
    cases l with
    | nil =>
      go_wp2_with fail
      refine (string _ _ _ _ hi (by omega)).mono ?_
      rintro e w2 ⟨rfl, h2, hb2⟩
      go_wp2
      go_ret2
      obtain ⟨_, d, hF⟩ := HF.out
      have e : fromR 1 s.data.toList = (acc, 0) := by
        unfold fromR; rw [← hl, hF, fromK_nil]; simp
      exact ⟨by rw [e]; rfl, hb.trans hb2⟩
    | cons a t =>
      have hC := step1 ⟨(a :: t).toArray⟩ a t rfl (by have := HF.out.1; show (a :: t).length ≤ _; omega) wr
      rw [show (⟨(a :: t).toArray⟩ : ByteArray).data.toList = a :: t from rfl] at hC
      have hn := stepF_le 1 (a :: t)
      obtain ⟨hlen, d, hF⟩ := HF.out
      clear HF
      by_cases hz2 : (stepF 1 (a :: t)).2 = 0
      · have e : fromR 1 s.data.toList = ([], 7) := by
          unfold fromR; rw [← hl, hF, fromK_bad (by simp) hz2]; rfl
        have HE := Lib.hid e
        rw [hz2] at hC
        have HC := Lib.hid hC
        clear hz2 e hF hlen hn hC
        go_wp2_with fail
        refine HC.out.mono ?_
        rintro e w2 ⟨rfl, hb2⟩
        go_wp2
        go_ret2
        exact ⟨by rw [HE.out]; rfl, hb.trans (hb2.mono hb.size)⟩
      · rw [fromK_step (by simp) hz2] at hF
        generalize stepF 1 (a :: t) = st at *
        obtain ⟨x, n⟩ := st
        simp only at hF hz2 hn hC
        have HF := Lib.hid hF
        have HC := Lib.hid hC
        have hz3 : 0 < n := by omega
        have hzb : ((n : Int) == 0) = false := by rw [beq_eq_false_iff_ne]; omega
        clear hF hC hz2
        go_wp2_with fail
        refine HC.out.mono ?_
        rintro e w2 ⟨rfl, hb2⟩
        have hz2 := hb2.size
        have hn2 : n ≤ t.length + 1 := by simpa using hn
        go_wp2_with fail
        refine (writeByte _ _ _ _ _ (isB_below hi hb2) (by rw [cells_len]; omega) (by omega)).mono ?_
        rintro e w3 ⟨rfl, h3, hb3⟩
        go_wp2
        go_roundw
        case rel =>
          refine ⟨(a :: t).drop n, acc ++ [x], congrArg Value.string (cut_eq (a :: t) n), ⟨by rw [cells_snoc]; exact h3⟩, ⟨hb.trans ((hb2.mono hb.size).trans hb3)⟩, ⟨?_, d + n - 1, ?_⟩⟩
          · simp only [List.length_append, List.length_drop, List.length_cons, List.length_nil] at hlen ⊢; omega
          · rw [HF.out, show d + (a :: t).length = d + n - 1 + ((a :: t).drop n).length + 1 by simp only [List.length_drop, List.length_cons]; omega]
            cases fromK 1 (d + n - 1 + ((a :: t).drop n).length + 1) ((a :: t).drop n) <;> simp
        case measure =>
          show ByteArray.size _ < ByteArray.size _
          rw [show (⟨(a :: t).toArray⟩ : ByteArray).extract n (t.length + 1) = ⟨((a :: t).drop n).toArray⟩ from cut_eq (a :: t) n]
          show ((a :: t).drop n).length < (a :: t).length
          simp only [List.length_drop, List.length_cons]; omega
set_option maxHeartbeats 4000000 in
set_option maxRecDepth 100000 in
theorem from_mail (s : ByteArray) (hs : s.size ≤ 140737488351232) (w : World) :
    Calls Tryd.prog 22 #[.int .u8 2, .string s] w fun e w' => e = .returned (.tuple #[.string ⟨(fromR 2 s.data.toList).1.toArray⟩, .int .i64 (fromR 2 s.data.toList).2]) ∧ Below w.heap.size w w' := by
  have h0 := newB w
  have hl := size_of (s := s) rfl
  go_enter Tryd.func22, Tryd.ntmps22
  go_wp2_with fail
  refine (is_any 2 (by decide) _).mono ?_
  rintro e w1 ⟨rfl, rfl⟩
  go_wp2
  go_loopw [1] (fun v wr => ∃ l acc : List UInt8, v = .string ⟨l.toArray⟩ ∧ Aside0 (IsB w.heap.size w.heap.size (Lib.byteCells acc) wr) ∧ Aside0 (Below w.heap.size w wr) ∧ Aside0 (acc.length + l.length ≤ s.size ∧ ∃ d, fromK 2 (s.size + 1) s.data.toList = (fromK 2 (d + l.length + 1) l).map (acc ++ ·))) (fun v _ => match v with | .string x => x.size | _ => 0)
  case atStart => exact ⟨s.data.toList, [], by simp, ⟨h0⟩, ⟨(Below.refl _ w).alloc (Nat.le_refl _) _⟩, ⟨(by rw [hl]; exact Nat.le_of_eq (Nat.zero_add _)), 0, (by rw [hl, Nat.zero_add]; cases fromK 2 _ s.data.toList <;> rfl)⟩⟩
  case round =>
    obtain ⟨l, acc, rfl, ⟨hi⟩, ⟨hb⟩, HF⟩ := hrel
    have hz := hb.size
    cases l with
    | nil =>
      go_wp2_with fail
      refine (string _ _ _ _ hi (by omega)).mono ?_
      rintro e w2 ⟨rfl, h2, hb2⟩
      go_wp2
      go_ret2
      obtain ⟨_, d, hF⟩ := HF.out
      have e : fromR 2 s.data.toList = (acc, 0) := by
        unfold fromR; rw [← hl, hF, fromK_nil]; simp
      exact ⟨by rw [e]; rfl, hb.trans hb2⟩
    | cons a t =>
      have hC := step2 ⟨(a :: t).toArray⟩ a t rfl (by have := HF.out.1; show (a :: t).length ≤ _; omega) wr
      rw [show (⟨(a :: t).toArray⟩ : ByteArray).data.toList = a :: t from rfl] at hC
      have hn := stepF_le 2 (a :: t)
      obtain ⟨hlen, d, hF⟩ := HF.out
      clear HF
      by_cases hz2 : (stepF 2 (a :: t)).2 = 0
      · have e : fromR 2 s.data.toList = ([], 7) := by
          unfold fromR; rw [← hl, hF, fromK_bad (by simp) hz2]; rfl
        have HE := Lib.hid e
        rw [hz2] at hC
        have HC := Lib.hid hC
        clear hz2 e hF hlen hn hC
        go_wp2_with fail
        refine HC.out.mono ?_
        rintro e w2 ⟨rfl, hb2⟩
        go_wp2
        go_ret2
        exact ⟨by rw [HE.out]; rfl, hb.trans (hb2.mono hb.size)⟩
      · rw [fromK_step (by simp) hz2] at hF
        generalize stepF 2 (a :: t) = st at *
        obtain ⟨x, n⟩ := st
        simp only at hF hz2 hn hC
        have HF := Lib.hid hF
        have HC := Lib.hid hC
        have hz3 : 0 < n := by omega
        have hzb : ((n : Int) == 0) = false := by rw [beq_eq_false_iff_ne]; omega
        clear hF hC hz2
        go_wp2_with fail
        refine HC.out.mono ?_
        rintro e w2 ⟨rfl, hb2⟩
        have hz2 := hb2.size
        have hn2 : n ≤ t.length + 1 := by simpa using hn
        go_wp2_with fail
        refine (writeByte _ _ _ _ _ (isB_below hi hb2) (by rw [cells_len]; omega) (by omega)).mono ?_
        rintro e w3 ⟨rfl, h3, hb3⟩
        go_wp2
        go_roundw
        case rel =>
          refine ⟨(a :: t).drop n, acc ++ [x], congrArg Value.string (cut_eq (a :: t) n), ⟨by rw [cells_snoc]; exact h3⟩, ⟨hb.trans ((hb2.mono hb.size).trans hb3)⟩, ⟨?_, d + n - 1, ?_⟩⟩
          · simp only [List.length_append, List.length_drop, List.length_cons, List.length_nil] at hlen ⊢; omega
          · rw [HF.out, show d + (a :: t).length = d + n - 1 + ((a :: t).drop n).length + 1 by simp only [List.length_drop, List.length_cons]; omega]
            cases fromK 2 (d + n - 1 + ((a :: t).drop n).length + 1) ((a :: t).drop n) <;> simp
        case measure =>
          show ByteArray.size _ < ByteArray.size _
          rw [show (⟨(a :: t).toArray⟩ : ByteArray).extract n (t.length + 1) = ⟨((a :: t).drop n).toArray⟩ from cut_eq (a :: t) n]
          show ((a :: t).drop n).length < (a :: t).length
          simp only [List.length_drop, List.length_cons]; omega
set_option maxHeartbeats 4000000 in
set_option maxRecDepth 100000 in
theorem from_sms (s : ByteArray) (hs : s.size ≤ 140737488351232) (w : World) :
    Calls Tryd.prog 22 #[.int .u8 3, .string s] w fun e w' => e = .returned (.tuple #[.string ⟨(fromR 3 s.data.toList).1.toArray⟩, .int .i64 (fromR 3 s.data.toList).2]) ∧ Below w.heap.size w w' := by
  have h0 := newB w
  have hl := size_of (s := s) rfl
  go_enter Tryd.func22, Tryd.ntmps22
  go_wp2_with fail
  refine (is_any 3 (by decide) _).mono ?_
  rintro e w1 ⟨rfl, rfl⟩
  go_wp2
  go_loopw [1] (fun v wr => ∃ l acc : List UInt8, v = .string ⟨l.toArray⟩ ∧ Aside0 (IsB w.heap.size w.heap.size (Lib.byteCells acc) wr) ∧ Aside0 (Below w.heap.size w wr) ∧ Aside0 (acc.length + l.length ≤ s.size ∧ ∃ d, fromK 3 (s.size + 1) s.data.toList = (fromK 3 (d + l.length + 1) l).map (acc ++ ·))) (fun v _ => match v with | .string x => x.size | _ => 0)
  case atStart => exact ⟨s.data.toList, [], by simp, ⟨h0⟩, ⟨(Below.refl _ w).alloc (Nat.le_refl _) _⟩, ⟨(by rw [hl]; exact Nat.le_of_eq (Nat.zero_add _)), 0, (by rw [hl, Nat.zero_add]; cases fromK 3 _ s.data.toList <;> rfl)⟩⟩
  case round =>
    obtain ⟨l, acc, rfl, ⟨hi⟩, ⟨hb⟩, HF⟩ := hrel
    have hz := hb.size
    cases l with
    | nil =>
      go_wp2_with fail
      refine (string _ _ _ _ hi (by omega)).mono ?_
      rintro e w2 ⟨rfl, h2, hb2⟩
      go_wp2
      go_ret2
      obtain ⟨_, d, hF⟩ := HF.out
      have e : fromR 3 s.data.toList = (acc, 0) := by
        unfold fromR; rw [← hl, hF, fromK_nil]; simp
      exact ⟨by rw [e]; rfl, hb.trans hb2⟩
    | cons a t =>
      have hC := step3 ⟨(a :: t).toArray⟩ a t rfl (by have := HF.out.1; show (a :: t).length ≤ _; omega) wr
      rw [show (⟨(a :: t).toArray⟩ : ByteArray).data.toList = a :: t from rfl] at hC
      have hn := stepF_le 3 (a :: t)
      obtain ⟨hlen, d, hF⟩ := HF.out
      clear HF
      by_cases hz2 : (stepF 3 (a :: t)).2 = 0
      · have e : fromR 3 s.data.toList = ([], 7) := by
          unfold fromR; rw [← hl, hF, fromK_bad (by simp) hz2]; rfl
        have HE := Lib.hid e
        rw [hz2] at hC
        have HC := Lib.hid hC
        clear hz2 e hF hlen hn hC
        go_wp2_with fail
        refine HC.out.mono ?_
        rintro e w2 ⟨rfl, hb2⟩
        go_wp2
        go_ret2
        exact ⟨by rw [HE.out]; rfl, hb.trans (hb2.mono hb.size)⟩
      · rw [fromK_step (by simp) hz2] at hF
        generalize stepF 3 (a :: t) = st at *
        obtain ⟨x, n⟩ := st
        simp only at hF hz2 hn hC
        have HF := Lib.hid hF
        have HC := Lib.hid hC
        have hz3 : 0 < n := by omega
        have hzb : ((n : Int) == 0) = false := by rw [beq_eq_false_iff_ne]; omega
        clear hF hC hz2
        go_wp2_with fail
        refine HC.out.mono ?_
        rintro e w2 ⟨rfl, hb2⟩
        have hz2 := hb2.size
        have hn2 : n ≤ t.length + 1 := by simpa using hn
        go_wp2_with fail
        refine (writeByte _ _ _ _ _ (isB_below hi hb2) (by rw [cells_len]; omega) (by omega)).mono ?_
        rintro e w3 ⟨rfl, h3, hb3⟩
        go_wp2
        go_roundw
        case rel =>
          refine ⟨(a :: t).drop n, acc ++ [x], congrArg Value.string (cut_eq (a :: t) n), ⟨by rw [cells_snoc]; exact h3⟩, ⟨hb.trans ((hb2.mono hb.size).trans hb3)⟩, ⟨?_, d + n - 1, ?_⟩⟩
          · simp only [List.length_append, List.length_drop, List.length_cons, List.length_nil] at hlen ⊢; omega
          · rw [HF.out, show d + (a :: t).length = d + n - 1 + ((a :: t).drop n).length + 1 by simp only [List.length_drop, List.length_cons]; omega]
            cases fromK 3 (d + n - 1 + ((a :: t).drop n).length + 1) ((a :: t).drop n) <;> simp
        case measure =>
          show ByteArray.size _ < ByteArray.size _
          rw [show (⟨(a :: t).toArray⟩ : ByteArray).extract n (t.length + 1) = ⟨((a :: t).drop n).toArray⟩ from cut_eq (a :: t) n]
          show ((a :: t).drop n).length < (a :: t).length
          simp only [List.length_drop, List.length_cons]; omega
set_option maxHeartbeats 1000000 in
theorem from_none (c : Int) (s : ByteArray) (h0 : 0 ≤ c) (hc : ¬ (1 ≤ c ∧ c ≤ 3)) (w : World) :
    Calls Tryd.prog 22 #[.int .u8 c, .string s] w fun e w' => e = .returned (.tuple #[.string ⟨#[]⟩, .int .i64 1]) ∧ Below w.heap.size w w' := by
  go_enter Tryd.func22, Tryd.ntmps22
  go_wp2_with fail
  refine (is_any c h0 _).mono ?_
  rw [decide_eq_false hc]
  rintro e w1 ⟨rfl, rfl⟩
  go_wp2
  go_ret2
  exact ⟨rfl, Below.refl _ _⟩
def esc_From.f (a0 : Int) (a1 : ByteArray) : Option (ByteArray × Int) :=
  if 0 ≤ a0 then (if 1 ≤ a0 ∧ a0 ≤ 3 then (if a1.size ≤ 140737488351232 then some (⟨(fromR a0 a1.data.toList).1.toArray⟩, (fromR a0 a1.data.toList).2) else none) else some (⟨#[]⟩, 1)) else none
theorem esc_From.calls (a0 : Int) (a1 : ByteArray) (r1 : ByteArray) (r2 : Int) (w : World) (h : esc_From.f a0 a1 = some (r1, r2)) :
    Calls Tryd.prog 22 #[.int .u8 a0, .string a1] w fun e w' => e = .returned (.tuple #[.string r1, .int .i64 r2]) ∧ Below w.heap.size w w' := by
  unfold esc_From.f at h
  by_cases h0 : 0 ≤ a0
  · rw [if_pos h0] at h
    by_cases hc : 1 ≤ a0 ∧ a0 ≤ 3
    · rw [if_pos hc] at h
      by_cases hs : a1.size ≤ 140737488351232
      · rw [if_pos hs] at h
        simp only [Option.some.injEq, Prod.mk.injEq] at h
        obtain ⟨rfl, rfl⟩ := h
        have : a0 = 1 ∨ a0 = 2 ∨ a0 = 3 := by omega
        rcases this with rfl | rfl | rfl
        · exact from_note a1 hs w
        · exact from_mail a1 hs w
        · exact from_sms a1 hs w
      · rw [if_neg hs] at h; cases h
    · rw [if_neg hc] at h
      simp only [Option.some.injEq, Prod.mk.injEq] at h
      obtain ⟨rfl, rfl⟩ := h
      exact from_none a0 a1 h0 hc w
  · rw [if_neg h0] at h; cases h
end Go.Proofs.YtcbdihhnoicabaaDoor.Esc
