/- What esc's inner functions do to a builder: the bytes for a note, for a mail, for a short text. Condition: the new length takes at most 2^47 bytes. -/
import Derived.Test.YtcbdihhnoicabaaDoorBuilder
import Derived.Lib.Hide
namespace Go.Proofs.YtcbdihhnoicabaaDoor.Esc
open Go.RowKit Go.Proofs.YtcbdihhnoicabaaDoor.Bld Go.Proofs.YtcbdihhnoicabaaDoorW.PrintWords
def hexL : List UInt8 := [48, 49, 50, 51, 52, 53, 54, 55, 56, 57, 97, 98, 99, 100, 101, 102]
/-- a byte for a note -/
def pushN (n : Nat) : List UInt8 :=
  if n = 10 then [92, 110] else if n = 9 then [92, 116] else if n < 32 ∨ n = 127 then [92, 117, 48, 48, hexL.getD (n / 16) 0, hexL.getD (n % 16) 0] else if n = 34 ∨ n = 92 then [92, UInt8.ofNat n] else [UInt8.ofNat n]
theorem hexAt (i : Nat) (h : i < (⟨#[48, 49, 50, 51, 52, 53, 54, 55, 56, 57, 97, 98, 99, 100, 101, 102]⟩ : ByteArray).size) : (⟨#[48, 49, 50, 51, 52, 53, 54, 55, 56, 57, 97, 98, 99, 100, 101, 102]⟩ : ByteArray)[i] = hexL.getD i 0 := by
  have : ∀ j : Fin 16, (⟨#[48, 49, 50, 51, 52, 53, 54, 55, 56, 57, 97, 98, 99, 100, 101, 102]⟩ : ByteArray)[j.val]'j.isLt = hexL.getD j.val 0 := by decide
  exact this ⟨i, h⟩
theorem pushN_le (n : Nat) : 1 ≤ (pushN n).length ∧ (pushN n).length ≤ 6 := by
  unfold pushN; repeat' split
  all_goals simp
set_option maxHeartbeats 2000000 in
set_option maxRecDepth 100000 in
theorem push_any (B b : Nat) (bs : List Value) (n : Nat) (hn : n < 256) (w : World) (h : IsB B b bs w) (hlen : bs.length + 6 ≤ 140737488355328) (hBw : B ≤ w.heap.size) :
    Calls Tryd.prog 49 #[.pointer (some ⟨b, 0, none⟩), .int .u8 n] w fun e w' => e = .returned (.tuple #[]) ∧ IsB B b (bs ++ Lib.byteCells (pushN n)) w' ∧ Below B w w' := by
  by_cases c1 : n = 10
  · subst c1
    go_enter Tryd.func49, Tryd.ntmps49
    go_wp2_with fail
    refine (writeString B b bs _ _ h (show bs.length + 2 ≤ _ by omega) hBw).mono ?_
    rintro e w1 ⟨rfl, h1, hb1⟩
    go_wp2
    go_end0
    exact ⟨rfl, h1, hb1⟩
  by_cases c2 : n = 9
  · subst c2
    go_enter Tryd.func49, Tryd.ntmps49
    go_wp2_with fail
    refine (writeString B b bs _ _ h (show bs.length + 2 ≤ _ by omega) hBw).mono ?_
    rintro e w1 ⟨rfl, h1, hb1⟩
    go_wp2
    go_end0
    exact ⟨rfl, h1, hb1⟩
  have t1 : ((n : Int) == 10) = false := by rw [beq_eq_false_iff_ne]; omega
  have t2 : ((n : Int) == 9) = false := by rw [beq_eq_false_iff_ne]; omega
  by_cases c3 : n < 32 ∨ n = 127
  · have e : pushN n = [92, 117, 48, 48, hexL.getD (n / 16) 0, hexL.getD (n % 16) 0] := by unfold pushN; rw [if_neg c1, if_neg c2, if_pos c3]
    rw [e]
    clear e
    have hq : n / 16 < 16 := by omega
    have hr : n % 16 < 16 := by omega
    by_cases c4 : n < 32
    · have t3 : decide ((n : Int) < 32) = true := by simp; omega
      clear c1 c2 c3
      go_enter Tryd.func49, Tryd.ntmps49
      go_wp2_with fail
      refine (writeString B b bs _ _ h (show bs.length + 4 ≤ _ by omega) hBw).mono ?_
      rintro e w1 ⟨rfl, h1, hb1⟩
      go_wp2_with fail
      refine (writeByte B b _ _ _ h1 (by simp [Lib.strCells]; omega) (by have := hb1.size; omega)).mono ?_
      rintro e w2 ⟨rfl, h2, hb2⟩
      go_wp2_with fail
      refine (writeByte B b _ _ _ h2 (by simp [Lib.strCells]; omega) (by have := hb1.size; have := hb2.size; omega)).mono ?_
      rintro e w3 ⟨rfl, h3, hb3⟩
      go_wp2
      go_end0
      exact ⟨rfl, by rw [hexAt, hexAt] at h3; simpa [Lib.strCells, Lib.byteCells] using h3, (hb1.trans hb2).trans hb3⟩
    · obtain rfl : n = 127 := by omega
      clear c1 c2 c3
      go_enter Tryd.func49, Tryd.ntmps49
      go_wp2_with fail
      refine (writeString B b bs _ _ h (show bs.length + 4 ≤ _ by omega) hBw).mono ?_
      rintro e w1 ⟨rfl, h1, hb1⟩
      go_wp2_with fail
      refine (writeByte B b _ _ _ h1 (by simp [Lib.strCells]; omega) (by have := hb1.size; omega)).mono ?_
      rintro e w2 ⟨rfl, h2, hb2⟩
      go_wp2_with fail
      refine (writeByte B b _ _ _ h2 (by simp [Lib.strCells]; omega) (by have := hb1.size; have := hb2.size; omega)).mono ?_
      rintro e w3 ⟨rfl, h3, hb3⟩
      go_wp2
      go_end0
      exact ⟨rfl, by rw [hexAt, hexAt] at h3; simpa [Lib.strCells, Lib.byteCells, hexL] using h3, (hb1.trans hb2).trans hb3⟩
  have t3 : decide ((n : Int) < 32) = false := by simp; omega
  have t4 : ((n : Int) == 127) = false := by rw [beq_eq_false_iff_ne]; omega
  by_cases c4 : n = 34
  · subst c4
    go_enter Tryd.func49, Tryd.ntmps49
    go_wp2_with fail
    refine (writeByte B b bs _ _ h (by omega) hBw).mono ?_
    rintro e w1 ⟨rfl, h1, hb1⟩
    go_wp2_with fail
    refine (writeByte B b _ _ _ h1 (by simp; omega) (by have := hb1.size; omega)).mono ?_
    rintro e w2 ⟨rfl, h2, hb2⟩
    go_wp2
    go_end0
    exact ⟨rfl, by simpa [pushN, Lib.byteCells] using h2, hb1.trans hb2⟩
  by_cases c5 : n = 92
  · subst c5
    go_enter Tryd.func49, Tryd.ntmps49
    go_wp2_with fail
    refine (writeByte B b bs _ _ h (by omega) hBw).mono ?_
    rintro e w1 ⟨rfl, h1, hb1⟩
    go_wp2_with fail
    refine (writeByte B b _ _ _ h1 (by simp; omega) (by have := hb1.size; omega)).mono ?_
    rintro e w2 ⟨rfl, h2, hb2⟩
    go_wp2
    go_end0
    exact ⟨rfl, by simpa [pushN, Lib.byteCells] using h2, hb1.trans hb2⟩
  have t5 : ((n : Int) == 34) = false := by rw [beq_eq_false_iff_ne]; omega
  have t6 : ((n : Int) == 92) = false := by rw [beq_eq_false_iff_ne]; omega
  have e : Lib.byteCells (pushN n) = [.int .u8 n] := by
    unfold pushN; rw [if_neg c1, if_neg c2, if_neg c3, if_neg (by omega)]
    simp [Lib.byteCells]; omega
  rw [e]
  clear e c1 c2 c3 c4 c5
  go_enter Tryd.func49, Tryd.ntmps49
  go_wp2_with fail
  refine (writeByte B b bs _ _ h (by omega) hBw).mono ?_
  rintro e w1 ⟨rfl, h1, hb1⟩
  go_wp2
  go_end0
  exact ⟨rfl, h1, hb1⟩
/-- a byte's entity; empty: it has none -/
def entN (n : Nat) : List UInt8 :=
  if n = 38 then [38, 97, 109, 112, 59] else if n = 60 then [38, 108, 116, 59] else if n = 62 then [38, 103, 116, 59] else if n = 34 then [38, 113, 117, 111, 116, 59] else if n = 39 then [38, 35, 51, 57, 59] else []
theorem entity_any (n : Nat) (w : World) : Calls Tryd.prog 70 #[.int .u8 n] w fun e w' => e = .returned (.string ⟨(entN n).toArray⟩) ∧ w = w' := by
  by_cases c1 : n = 38
  · subst c1
    go_enter Tryd.func70, Tryd.ntmps70
    go_wp2
    go_ret
    exact ⟨rfl, rfl⟩
  by_cases c2 : n = 60
  · subst c2
    go_enter Tryd.func70, Tryd.ntmps70
    go_wp2
    go_ret
    exact ⟨rfl, rfl⟩
  by_cases c3 : n = 62
  · subst c3
    go_enter Tryd.func70, Tryd.ntmps70
    go_wp2
    go_ret
    exact ⟨rfl, rfl⟩
  by_cases c4 : n = 34
  · subst c4
    go_enter Tryd.func70, Tryd.ntmps70
    go_wp2
    go_ret
    exact ⟨rfl, rfl⟩
  by_cases c5 : n = 39
  · subst c5
    go_enter Tryd.func70, Tryd.ntmps70
    go_wp2
    go_ret
    exact ⟨rfl, rfl⟩
  have e : entN n = [] := by unfold entN; rw [if_neg c1, if_neg c2, if_neg c3, if_neg c4, if_neg c5]
  rw [e]
  have t1 : ((n : Int) == 38) = false := by rw [beq_eq_false_iff_ne]; omega
  have t2 : ((n : Int) == 60) = false := by rw [beq_eq_false_iff_ne]; omega
  have t3 : ((n : Int) == 62) = false := by rw [beq_eq_false_iff_ne]; omega
  have t4 : ((n : Int) == 34) = false := by rw [beq_eq_false_iff_ne]; omega
  have t5 : ((n : Int) == 39) = false := by rw [beq_eq_false_iff_ne]; omega
  clear e c1 c2 c3 c4 c5
  go_enter Tryd.func70, Tryd.ntmps70
  go_wp2
  go_ret
  exact ⟨rfl, rfl⟩
/-- a byte for a mail -/
def emailN (n : Nat) : List UInt8 := if entN n = [] then [UInt8.ofNat n] else entN n
theorem entN_le (n : Nat) : (entN n).length ≤ 6 := by
  unfold entN; repeat' split
  all_goals simp
theorem emailN_le (n : Nat) : 1 ≤ (emailN n).length ∧ (emailN n).length ≤ 6 := by
  have := entN_le n
  unfold emailN; split
  · simp
  · rename_i h
    exact ⟨by cases hh : entN n with
      | nil => exact absurd hh h
      | cons a l => simp, this⟩
theorem byteCells_one (n : Nat) (hn : n < 256) : Lib.byteCells [UInt8.ofNat n] = [.int .u8 n] := by simp [Lib.byteCells]; omega
theorem email_any (B b : Nat) (bs : List Value) (n : Nat) (hn : n < 256) (w : World) (h : IsB B b bs w) (hlen : bs.length + 6 ≤ 140737488355328) (hBw : B ≤ w.heap.size) :
    Calls Tryd.prog 50 #[.pointer (some ⟨b, 0, none⟩), .int .u8 n] w fun e w' => e = .returned (.tuple #[]) ∧ IsB B b (bs ++ Lib.byteCells (emailN n)) w' ∧ Below B w w' := by
  have hl := entN_le n
  have he := entity_any n w
  have eE : emailN n = if entN n = [] then [UInt8.ofNat n] else entN n := rfl
  rw [eE]
  clear eE
  generalize entN n = l at *
  cases l with
  | nil =>
    rw [if_pos rfl, byteCells_one n hn]
    go_enter Tryd.func50, Tryd.ntmps50
    go_wp2_with fail
    refine he.mono ?_
    rintro e w1 ⟨rfl, rfl⟩
    go_wp2_with fail
    refine (writeByte B b bs _ _ h (by omega) hBw).mono ?_
    rintro e w1 ⟨rfl, h1, hb1⟩
    go_wp2
    go_end0
    exact ⟨rfl, h1, hb1⟩
  | cons a l =>
    rw [if_neg (by simp)]
    go_enter Tryd.func50, Tryd.ntmps50
    go_wp2_with fail
    refine he.mono ?_
    rintro e w1 ⟨rfl, rfl⟩
    go_wp2_with fail
    refine (writeString B b bs _ _ h (show bs.length + (a :: l).length ≤ _ by omega) hBw).mono ?_
    rintro e w1 ⟨rfl, h1, hb1⟩
    go_wp2
    (try simp only [Exit.inBlock, Exit.then])
    refine bodyPost_ret (results_none rfl _ _ _) rfl ⟨rfl, h1, hb1⟩
/-- a short text, byte by byte: what stands so far, and whether a question mark was the last -/
def smsStep (st : List UInt8 × Bool) (c : UInt8) : List UInt8 × Bool :=
  if c = 10 ∨ c = 9 then (st.1 ++ [32], false) else if 32 ≤ c ∧ c ≤ 126 then (st.1 ++ [c], false) else if st.2 = true then st else (st.1 ++ [63], true)
def smsF (l : List UInt8) : List UInt8 × Bool := l.foldl smsStep ([], false)
theorem smsStep_le (st : List UInt8 × Bool) (c : UInt8) : (smsStep st c).1.length ≤ st.1.length + 1 := by
  unfold smsStep; repeat' split
  all_goals simp
theorem smsF_snoc (l : List UInt8) (c : UInt8) : smsF (l ++ [c]) = smsStep (smsF l) c := by unfold smsF; rw [List.foldl_append]; rfl
theorem smsF_le' (l : List UInt8) : ∀ st, (l.foldl smsStep st).1.length ≤ st.1.length + l.length := by
  induction l with
  | nil => intro st; simp
  | cons c l ih => intro st; have := smsStep_le st c; have := ih (smsStep st c); simp only [List.foldl_cons, List.length_cons]; omega
theorem smsF_le (l : List UInt8) : (smsF l).1.length ≤ l.length := by have := smsF_le' l ([], false); simpa [smsF] using this
theorem u8_eq (c : UInt8) (n : Nat) (hn : n < 256) : c = UInt8.ofNat n ↔ c.toNat = n := by
  constructor
  · rintro rfl; simp; omega
  · intro h; apply UInt8.toNat_inj.1; simp; omega
theorem sms10 (st : List UInt8 × Bool) (c : UInt8) (h : c.toNat = 10 ∨ c.toNat = 9) : smsStep st c = (st.1 ++ [32], false) := by
  unfold smsStep; rw [if_pos]; rcases h with h | h
  · exact .inl ((u8_eq c 10 (by decide)).2 h)
  · exact .inr ((u8_eq c 9 (by decide)).2 h)
theorem smsPlain (st : List UInt8 × Bool) (c : UInt8) (h1 : 32 ≤ c.toNat) (h2 : c.toNat ≤ 126) : smsStep st c = (st.1 ++ [c], false) := by
  unfold smsStep; rw [if_neg, if_pos]
  · exact ⟨UInt8.le_iff_toNat_le.2 h1, UInt8.le_iff_toNat_le.2 h2⟩
  · rintro (h | h) <;> subst h <;> simp at h1
theorem smsOther (st : List UInt8 × Bool) (c : UInt8) (h0 : c.toNat ≠ 10 ∧ c.toNat ≠ 9) (h : ¬ (32 ≤ c.toNat ∧ c.toNat ≤ 126)) : smsStep st c = if st.2 = true then st else (st.1 ++ [63], true) := by
  unfold smsStep; rw [if_neg, if_neg]
  · rintro ⟨a, b⟩; exact h ⟨UInt8.le_iff_toNat_le.1 a, UInt8.le_iff_toNat_le.1 b⟩
  · rintro (h | h)
    · exact h0.1 ((u8_eq c 10 (by decide)).1 h)
    · exact h0.2 ((u8_eq c 9 (by decide)).1 h)
theorem cells_snoc (l : List UInt8) (c : UInt8) : Lib.byteCells (l ++ [c]) = Lib.byteCells l ++ [.int .u8 c.toNat] := by simp [Lib.byteCells]
theorem take_snoc (s : ByteArray) (k : Nat) (h : k < s.size) : s.data.toList.take (k + 1) = s.data.toList.take k ++ [s[k]] := by
  rw [List.take_succ_eq_append_getElem (by simpa using h)]; rfl
set_option maxHeartbeats 4000000 in
set_option maxRecDepth 100000 in
theorem sms_any (B b : Nat) (s : ByteArray) (w : World) (h : IsB B b [] w) (hs : s.size ≤ 140737488351232) (hBw : B ≤ w.heap.size) :
    Calls Tryd.prog 47 #[.pointer (some ⟨b, 0, none⟩), .string s] w fun e w' => e = .returned (.tuple #[]) ∧ IsB B b (Lib.byteCells (smsF s.data.toList).1) w' ∧ Below B w w' := by
  go_enter Tryd.func47, Tryd.ntmps47
  go_wp2
  go_loopw [4, 9] (fun r i wr => ∃ k : Nat, k ≤ s.size ∧ i = .int .i64 k ∧ r = .bool (smsF (s.data.toList.take k)).2 ∧ Aside0 (IsB B b (Lib.byteCells (smsF (s.data.toList.take k)).1) wr) ∧ Aside0 (Below B w wr)) (fun _ i _ => s.size - (intOf i).toNat)
  case atStart => exact ⟨0, Nat.zero_le _, rfl, rfl, ⟨h⟩, ⟨Below.refl _ _⟩⟩
  case round =>
    obtain ⟨k, hk, rfl, rfl, ⟨hi⟩, ⟨hb⟩⟩ := hrel
    have hle := smsF_le (s.data.toList.take k)
    have hlk : (s.data.toList.take k).length ≤ k := List.length_take_le _ _
    by_cases hlt : k < s.size
    · have hsn : smsF (s.data.toList.take (k + 1)) = smsStep (smsF (s.data.toList.take k)) s[k] := by rw [take_snoc s k hlt, smsF_snoc]
      have hz := hb.size
      have hc := s[k].toNat_lt
      have HL : (Lib.byteCells (smsF (s.data.toList.take k)).1).length = (smsF (s.data.toList.take k)).1.length := by simp [Lib.byteCells]
      generalize smsF (s.data.toList.take k) = st at *
      obtain ⟨acc, run⟩ := st
      simp only at hi hle HL
      by_cases c1 : s[k].toNat = 10 ∨ s[k].toNat = 9
      · rw [sms10 _ _ c1] at hsn
        have HS := Lib.hid hsn
        clear hsn
        by_cases c2 : s[k].toNat = 10
        · have t1 : ((s[k].toNat : Int) == 10) = true := by rw [beq_iff_eq]; omega
          clear c1 c2
          go_wp2_with fail
          refine (writeByte B b _ _ _ hi (by omega) (by omega)).mono ?_
          rintro e w1 ⟨rfl, h1, hb1⟩
          go_wp2
          go_roundw
          case rel => exact ⟨k + 1, by omega, by go_num, by rw [HS.out], ⟨by rw [HS.out, cells_snoc]; exact h1⟩, ⟨hb.trans hb1⟩⟩
          case measure => simp [intOf]; omega
        · have t1 : ((s[k].toNat : Int) == 10) = false := by rw [beq_eq_false_iff_ne]; omega
          have t2 : ((s[k].toNat : Int) == 9) = true := by rw [beq_iff_eq]; omega
          clear c1 c2
          go_wp2_with fail
          refine (writeByte B b _ _ _ hi (by omega) (by omega)).mono ?_
          rintro e w1 ⟨rfl, h1, hb1⟩
          go_wp2
          go_roundw
          case rel => exact ⟨k + 1, by omega, by go_num, by rw [HS.out], ⟨by rw [HS.out, cells_snoc]; exact h1⟩, ⟨hb.trans hb1⟩⟩
          case measure => simp [intOf]; omega
      · have t1 : ((s[k].toNat : Int) == 10) = false := by rw [beq_eq_false_iff_ne]; omega
        have t2 : ((s[k].toNat : Int) == 9) = false := by rw [beq_eq_false_iff_ne]; omega
        by_cases c3 : 32 ≤ s[k].toNat ∧ s[k].toNat ≤ 126
        · rw [smsPlain _ _ c3.1 c3.2] at hsn
          have HS := Lib.hid hsn
          obtain ⟨t3, t4⟩ := c3
          clear hsn c1
          go_wp2_with fail
          refine (writeByte B b _ _ _ hi (by omega) (by omega)).mono ?_
          rintro e w1 ⟨rfl, h1, hb1⟩
          go_wp2
          go_roundw
          case rel => exact ⟨k + 1, by omega, by go_num, by rw [HS.out], ⟨by rw [HS.out, cells_snoc]; exact h1⟩, ⟨hb.trans hb1⟩⟩
          case measure => simp [intOf]; omega
        · rw [smsOther _ _ (by omega) c3] at hsn
          have HS := Lib.hid hsn
          clear hsn
          have t3 : s[k].toNat < 32 ∨ 126 < s[k].toNat := by omega
          clear c1 c3
          cases run with
          | true =>
            simp only [if_true] at HS
            rcases t3 with t3 | t3
            all_goals
              go_wp2
              go_roundw
              case rel => exact ⟨k + 1, by omega, by go_num, by rw [HS.out], ⟨by rw [HS.out]; exact hi⟩, ⟨hb⟩⟩
              case measure => simp [intOf]; omega
          | false =>
            simp only [Bool.false_eq_true, if_false] at HS
            rcases t3 with t3 | t3
            all_goals
              go_wp2_with fail
              refine (writeByte B b _ _ _ hi (by omega) (by omega)).mono ?_
              rintro e w1 ⟨rfl, h1, hb1⟩
              go_wp2
              go_roundw
              case rel => exact ⟨k + 1, by omega, by go_num, by rw [HS.out], ⟨by rw [HS.out, cells_snoc]; exact h1⟩, ⟨hb.trans hb1⟩⟩
              case measure => simp [intOf]; omega
    · have e : k = s.size := by omega
      have e2 : s.data.toList.take k = s.data.toList := List.take_of_length_le (by simp; omega)
      rw [e2] at hi
      clear e e2 hle hlk
      go_wp2
      go_end0
      exact ⟨rfl, hi, hb⟩
theorem is_any (c : Int) (h0 : 0 ≤ c) (w : World) : Calls Tryd.prog 46 #[.int .u8 c] w fun e w' => e = .returned (.bool (decide (1 ≤ c ∧ c ≤ 3))) ∧ w = w' := by
  by_cases c1 : 0 < c
  · by_cases c2 : c < 4
    · rw [decide_eq_true (by omega)]
      go_enter Tryd.func46, Tryd.ntmps46
      go_wp2
      go_ret
      exact ⟨rfl, rfl⟩
    · rw [decide_eq_false (by omega)]
      go_enter Tryd.func46, Tryd.ntmps46
      go_wp2
      go_ret
      exact ⟨rfl, rfl⟩
  · rw [decide_eq_false (by omega)]
    go_enter Tryd.func46, Tryd.ntmps46
    go_wp2
    go_ret
    exact ⟨rfl, rfl⟩
/-- a text for a note, for a mail -/
def noteL (l : List UInt8) : List UInt8 := l.flatMap fun c => pushN c.toNat
def mailL (l : List UInt8) : List UInt8 := l.flatMap fun c => emailN c.toNat
theorem noteL_le (l : List UInt8) : l.length ≤ (noteL l).length ∧ (noteL l).length ≤ 6 * l.length := by
  induction l with
  | nil => simp [noteL]
  | cons c l ih => have := pushN_le c.toNat; simp only [noteL, List.flatMap_cons, List.length_append, List.length_cons] at *; omega
theorem mailL_le (l : List UInt8) : l.length ≤ (mailL l).length ∧ (mailL l).length ≤ 6 * l.length := by
  induction l with
  | nil => simp [mailL]
  | cons c l ih => have := emailN_le c.toNat; simp only [mailL, List.flatMap_cons, List.length_append, List.length_cons] at *; omega
theorem noteL_snoc (l : List UInt8) (c : UInt8) : noteL (l ++ [c]) = noteL l ++ pushN c.toNat := by simp [noteL]
theorem mailL_snoc (l : List UInt8) (c : UInt8) : mailL (l ++ [c]) = mailL l ++ emailN c.toNat := by simp [mailL]
/-- what To tells: the bytes -/
def toL (c : Int) (l : List UInt8) : List UInt8 := if c = 1 then noteL l else if c = 2 then mailL l else (smsF l).1
def esc_To.f (a0 : Int) (a1 : ByteArray) : Option (ByteArray × Int) :=
  if 0 ≤ a0 then (if 1 ≤ a0 ∧ a0 ≤ 3 then (if a1.size ≤ 23456248059221 then some (⟨(toL a0 a1.data.toList).toArray⟩, 0) else none) else some (⟨#[]⟩, 1)) else none
theorem newB (w : World) : IsB w.heap.size w.heap.size [] (w.alloc (.cells #[.pointer none, .slice none 0 0] 67)) := .of (Lib.fresh_isBuilder _ _ w)
theorem cells_len (l : List UInt8) : (Lib.byteCells l).length = l.length := by simp [Lib.byteCells]
set_option maxHeartbeats 4000000 in
set_option maxRecDepth 100000 in
theorem to_sms (s : ByteArray) (hs : s.size ≤ 140737488351232) (w : World) :
    Calls Tryd.prog 20 #[.int .u8 3, .string s] w fun e w' => e = .returned (.tuple #[.string ⟨(smsF s.data.toList).1.toArray⟩, .int .i64 0]) ∧ Below w.heap.size w w' := by
  have h0 := newB w
  go_enter Tryd.func20, Tryd.ntmps20
  go_wp2_with fail
  refine (is_any 3 (by decide) _).mono ?_
  rintro e w1 ⟨rfl, rfl⟩
  go_wp2_with fail
  refine (sms_any _ _ s _ h0 hs (by simp)).mono ?_
  rintro e w1 ⟨rfl, h1, hb1⟩
  go_wp2_with fail
  refine (string _ _ _ _ h1 (by have := hb1.size; simp at this; omega)).mono ?_
  rintro e w2 ⟨rfl, h2, hb2⟩
  go_wp2
  go_ret2
  exact ⟨rfl, (((Below.refl _ w).alloc (Nat.le_refl _) _).trans hb1).trans hb2⟩
set_option maxHeartbeats 4000000 in
set_option maxRecDepth 100000 in
theorem to_note (s : ByteArray) (hs : s.size ≤ 23456248059221) (w : World) :
    Calls Tryd.prog 20 #[.int .u8 1, .string s] w fun e w' => e = .returned (.tuple #[.string ⟨(noteL s.data.toList).toArray⟩, .int .i64 0]) ∧ Below w.heap.size w w' := by
  have h0 := newB w
  go_enter Tryd.func20, Tryd.ntmps20
  go_wp2_with fail
  refine (is_any 1 (by decide) _).mono ?_
  rintro e w1 ⟨rfl, rfl⟩
  go_wp2
  go_loopw [21] (fun i wr => ∃ k : Nat, k ≤ s.size ∧ i = .int .i64 k ∧ Aside0 (IsB w.heap.size w.heap.size (Lib.byteCells (noteL (s.data.toList.take k))) wr) ∧ Aside0 (Below w.heap.size w wr)) (fun i _ => s.size - (intOf i).toNat)
  case atStart => exact ⟨0, Nat.zero_le _, rfl, ⟨h0⟩, ⟨(Below.refl _ w).alloc (Nat.le_refl _) _⟩⟩
  case round =>
    obtain ⟨k, hk, rfl, ⟨hi⟩, ⟨hb⟩⟩ := hrel
    have hz := hb.size
    by_cases hlt : k < s.size
    · have HS := Lib.hid (show noteL (s.data.toList.take (k + 1)) = _ by rw [take_snoc s k hlt, noteL_snoc])
      have hle := (noteL_le (s.data.toList.take k)).2
      have hlk : (s.data.toList.take k).length ≤ k := List.length_take_le _ _
      go_wp2_with fail
      refine (push_any _ _ _ _ s[k].toNat_lt _ hi (by rw [cells_len]; omega) (by omega)).mono ?_
      rintro e w1 ⟨rfl, h1, hb1⟩
      go_wp2
      go_roundw
      case rel => exact ⟨k + 1, by omega, by go_num, ⟨by rw [HS.out]; simpa [Lib.byteCells] using h1⟩, ⟨hb.trans hb1⟩⟩
      case measure => simp [intOf]; omega
    · have e2 : s.data.toList.take k = s.data.toList := List.take_of_length_le (by simp; omega)
      rw [e2] at hi
      clear e2
      go_wp2_with fail
      refine (string _ _ _ _ hi (by omega)).mono ?_
      rintro e w2 ⟨rfl, h2, hb2⟩
      go_wp2
      go_ret2
      exact ⟨rfl, hb.trans hb2⟩
set_option maxHeartbeats 4000000 in
set_option maxRecDepth 100000 in
theorem to_mail (s : ByteArray) (hs : s.size ≤ 23456248059221) (w : World) :
    Calls Tryd.prog 20 #[.int .u8 2, .string s] w fun e w' => e = .returned (.tuple #[.string ⟨(mailL s.data.toList).toArray⟩, .int .i64 0]) ∧ Below w.heap.size w w' := by
  have h0 := newB w
  go_enter Tryd.func20, Tryd.ntmps20
  go_wp2_with fail
  refine (is_any 2 (by decide) _).mono ?_
  rintro e w1 ⟨rfl, rfl⟩
  go_wp2
  go_loopw [21] (fun i wr => ∃ k : Nat, k ≤ s.size ∧ i = .int .i64 k ∧ Aside0 (IsB w.heap.size w.heap.size (Lib.byteCells (mailL (s.data.toList.take k))) wr) ∧ Aside0 (Below w.heap.size w wr)) (fun i _ => s.size - (intOf i).toNat)
  case atStart => exact ⟨0, Nat.zero_le _, rfl, ⟨h0⟩, ⟨(Below.refl _ w).alloc (Nat.le_refl _) _⟩⟩
  case round =>
    obtain ⟨k, hk, rfl, ⟨hi⟩, ⟨hb⟩⟩ := hrel
    have hz := hb.size
    by_cases hlt : k < s.size
    · have HS := Lib.hid (show mailL (s.data.toList.take (k + 1)) = _ by rw [take_snoc s k hlt, mailL_snoc])
      have hle := (mailL_le (s.data.toList.take k)).2
      have hlk : (s.data.toList.take k).length ≤ k := List.length_take_le _ _
      go_wp2_with fail
      refine (email_any _ _ _ _ s[k].toNat_lt _ hi (by rw [cells_len]; omega) (by omega)).mono ?_
      rintro e w1 ⟨rfl, h1, hb1⟩
      go_wp2
      go_roundw
      case rel => exact ⟨k + 1, by omega, by go_num, ⟨by rw [HS.out]; simpa [Lib.byteCells] using h1⟩, ⟨hb.trans hb1⟩⟩
      case measure => simp [intOf]; omega
    · have e2 : s.data.toList.take k = s.data.toList := List.take_of_length_le (by simp; omega)
      rw [e2] at hi
      clear e2
      go_wp2_with fail
      refine (string _ _ _ _ hi (by omega)).mono ?_
      rintro e w2 ⟨rfl, h2, hb2⟩
      go_wp2
      go_ret2
      exact ⟨rfl, hb.trans hb2⟩
set_option maxHeartbeats 1000000 in
theorem to_none (c : Int) (s : ByteArray) (h0 : 0 ≤ c) (hc : ¬ (1 ≤ c ∧ c ≤ 3)) (w : World) :
    Calls Tryd.prog 20 #[.int .u8 c, .string s] w fun e w' => e = .returned (.tuple #[.string ⟨#[]⟩, .int .i64 1]) ∧ Below w.heap.size w w' := by
  go_enter Tryd.func20, Tryd.ntmps20
  go_wp2_with fail
  refine (is_any c h0 _).mono ?_
  rw [decide_eq_false hc]
  rintro e w1 ⟨rfl, rfl⟩
  go_wp2
  go_ret2
  exact ⟨rfl, Below.refl _ _⟩
theorem esc_To.calls (a0 : Int) (a1 : ByteArray) (r1 : ByteArray) (r2 : Int) (w : World) (h : esc_To.f a0 a1 = some (r1, r2)) :
    Calls Tryd.prog 20 #[.int .u8 a0, .string a1] w fun e w' => e = .returned (.tuple #[.string r1, .int .i64 r2]) ∧ Below w.heap.size w w' := by
  unfold esc_To.f at h
  by_cases h0 : 0 ≤ a0
  · rw [if_pos h0] at h
    by_cases hc : 1 ≤ a0 ∧ a0 ≤ 3
    · rw [if_pos hc] at h
      by_cases hs : a1.size ≤ 23456248059221
      · rw [if_pos hs] at h
        simp only [Option.some.injEq, Prod.mk.injEq] at h
        obtain ⟨rfl, rfl⟩ := h
        have : a0 = 1 ∨ a0 = 2 ∨ a0 = 3 := by omega
        rcases this with rfl | rfl | rfl
        · exact to_note a1 hs w
        · exact to_mail a1 hs w
        · exact to_sms a1 (by omega) w
      · rw [if_neg hs] at h; cases h
    · rw [if_neg hc] at h
      simp only [Option.some.injEq, Prod.mk.injEq] at h
      obtain ⟨rfl, rfl⟩ := h
      exact to_none a0 a1 h0 hc w
  · rw [if_neg h0] at h; cases h
end Go.Proofs.YtcbdihhnoicabaaDoor.Esc
