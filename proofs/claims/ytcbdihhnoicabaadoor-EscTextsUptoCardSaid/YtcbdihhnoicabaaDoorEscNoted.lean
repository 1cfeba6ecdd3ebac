/- What esc.noted reads: the byte whose code for a note a text begins with. -/
import Derived.Test.YtcbdihhnoicabaaDoorEscFrom
namespace Go.Proofs.YtcbdihhnoicabaaDoor.Esc
open Go.RowKit Go.Proofs.YtcbdihhnoicabaaDoor.Bld Go.Proofs.YtcbdihhnoicabaaDoorW.PrintWords
def ctl (n : Int) : UInt8 × Nat := if (32 ≤ n ∧ n ≠ 127) ∨ n = 10 ∨ n = 9 then (0, 0) else (UInt8.ofNat n.toNat, 6)
def hexF (l : List UInt8) : UInt8 × Nat :=
  if Lib.hasPrefix l [92, 117, 48, 48] = true ∧ 6 ≤ l.length ∧ 0 ≤ digI (l.getD 4 0) ∧ 0 ≤ digI (l.getD 5 0) then ctl (16 * digI (l.getD 4 0) + digI (l.getD 5 0)) else (0, 0)
def notedF (l : List UInt8) : UInt8 × Nat := match l with
  | [] => (0, 0)
  | c :: t => if c.toNat < 32 ∨ c.toNat = 127 ∨ c.toNat = 34 then (0, 0) else if c.toNat ≠ 92 then (c, 1) else match t with
    | [] => (0, 0)
    | d :: _ => if d.toNat = 110 then (10, 2) else if d.toNat = 116 then (9, 2) else if d.toNat = 34 ∨ d.toNat = 92 then (d, 2) else hexF l
def NotedAt (s : ByteArray) (w : World) (r : UInt8 × Nat) : Prop := Calls Tryd.prog 55 #[.string s] w fun e w' => e = .returned (.tuple #[.int .u8 r.1.toNat, .int .i64 r.2]) ∧ ∃ k, w' = w.drewN k
set_option maxHeartbeats 2000000 in
set_option maxRecDepth 100000 in
theorem noted_head (s : ByteArray) (w : World) (hz : 0 < s.size) (h : s[0].toNat < 32 ∨ s[0].toNat = 127 ∨ s[0].toNat = 34) : NotedAt s w (0, 0) := by
  unfold NotedAt
  rcases h with h | h | h
  · go_enter Tryd.func55, Tryd.ntmps55
    go_wp2
    go_ret2
    exact ⟨rfl, 0, rfl⟩
  · have t1 : 32 ≤ s[0].toNat := by omega
    have t2 : ((s[0].toNat : Int) == 127) = true := by rw [beq_iff_eq]; omega
    clear h
    go_enter Tryd.func55, Tryd.ntmps55
    go_wp2
    go_ret2
    exact ⟨rfl, 0, rfl⟩
  · have t1 : 32 ≤ s[0].toNat := by omega
    have t2 : ((s[0].toNat : Int) == 127) = false := by rw [beq_eq_false_iff_ne]; omega
    have t3 : ((s[0].toNat : Int) == 34) = true := by rw [beq_iff_eq]; omega
    clear h
    go_enter Tryd.func55, Tryd.ntmps55
    go_wp2
    go_ret2
    exact ⟨rfl, 0, rfl⟩
set_option maxHeartbeats 2000000 in
set_option maxRecDepth 100000 in
theorem noted_plain (s : ByteArray) (w : World) (hz : 0 < s.size) (h : ¬ (s[0].toNat < 32 ∨ s[0].toNat = 127 ∨ s[0].toNat = 34)) (h2 : s[0].toNat ≠ 92) : NotedAt s w (s[0], 1) := by
  unfold NotedAt
  have t1 : 32 ≤ s[0].toNat := by omega
  have t2 : ((s[0].toNat : Int) == 127) = false := by rw [beq_eq_false_iff_ne]; omega
  have t3 : ((s[0].toNat : Int) == 34) = false := by rw [beq_eq_false_iff_ne]; omega
  have t4 : ((s[0].toNat : Int) != 92) = true := by rw [bne_iff_ne]; omega
  clear h h2
  go_enter Tryd.func55, Tryd.ntmps55
  go_wp2
  go_ret2
  exact ⟨rfl, 0, rfl⟩
set_option maxHeartbeats 2000000 in
set_option maxRecDepth 100000 in
theorem noted_one (s : ByteArray) (w : World) (hz : s.size = 1) (h2 : s[0].toNat = 92) : NotedAt s w (0, 0) := by
  unfold NotedAt
  have t0 : 0 < s.size := by omega
  have t5 : s.size < 2 := by omega
  have t1 : 32 ≤ s[0].toNat := by omega
  have t2 : ((s[0].toNat : Int) == 127) = false := by rw [beq_eq_false_iff_ne]; omega
  have t3 : ((s[0].toNat : Int) == 34) = false := by rw [beq_eq_false_iff_ne]; omega
  have t4 : ((s[0].toNat : Int) != 92) = false := by rw [bne_eq_false_iff_eq]; omega
  clear hz h2
  go_enter Tryd.func55, Tryd.ntmps55
  go_wp2
  go_ret2
  exact ⟨rfl, 0, rfl⟩
set_option maxHeartbeats 2000000 in
set_option maxRecDepth 100000 in
theorem noted_two (s : ByteArray) (w : World) (hz : 2 ≤ s.size) (h2 : s[0].toNat = 92) (h : s[1].toNat = 110 ∨ s[1].toNat = 116 ∨ s[1].toNat = 34 ∨ s[1].toNat = 92) :
    NotedAt s w (if s[1].toNat = 110 then (10, 2) else if s[1].toNat = 116 then (9, 2) else (s[1], 2)) := by
  have t0 : 0 < s.size := by omega
  have t1 : 32 ≤ s[0].toNat := by omega
  have t2 : ((s[0].toNat : Int) == 127) = false := by rw [beq_eq_false_iff_ne]; omega
  have t3 : ((s[0].toNat : Int) == 34) = false := by rw [beq_eq_false_iff_ne]; omega
  have t4 : ((s[0].toNat : Int) != 92) = false := by rw [bne_eq_false_iff_eq]; omega
  rcases h with h | h | h | h
  · rw [if_pos h]
    have t6 : ((s[1].toNat : Int) == 110) = true := by rw [beq_iff_eq]; omega
    clear h h2
    unfold NotedAt
    go_enter Tryd.func55, Tryd.ntmps55
    go_wp2
    go_ret2
    exact ⟨rfl, 0, rfl⟩
  · rw [if_neg (by omega), if_pos h]
    have t6 : ((s[1].toNat : Int) == 110) = false := by rw [beq_eq_false_iff_ne]; omega
    have t7 : ((s[1].toNat : Int) == 116) = true := by rw [beq_iff_eq]; omega
    clear h h2
    unfold NotedAt
    go_enter Tryd.func55, Tryd.ntmps55
    go_wp2
    go_ret2
    exact ⟨rfl, 0, rfl⟩
  · rw [if_neg (by omega), if_neg (by omega)]
    have t6 : ((s[1].toNat : Int) == 110) = false := by rw [beq_eq_false_iff_ne]; omega
    have t7 : ((s[1].toNat : Int) == 116) = false := by rw [beq_eq_false_iff_ne]; omega
    have t8 : ((s[1].toNat : Int) == 34) = true := by rw [beq_iff_eq]; omega
    clear h h2
    unfold NotedAt
    go_enter Tryd.func55, Tryd.ntmps55
    go_wp2
    go_ret2
    exact ⟨rfl, 0, rfl⟩
  · rw [if_neg (by omega), if_neg (by omega)]
    have t6 : ((s[1].toNat : Int) == 110) = false := by rw [beq_eq_false_iff_ne]; omega
    have t7 : ((s[1].toNat : Int) == 116) = false := by rw [beq_eq_false_iff_ne]; omega
    have t8 : ((s[1].toNat : Int) == 34) = false := by rw [beq_eq_false_iff_ne]; omega
    have t9 : ((s[1].toNat : Int) == 92) = true := by rw [beq_iff_eq]; omega
    clear h h2
    unfold NotedAt
    go_enter Tryd.func55, Tryd.ntmps55
    go_wp2
    go_ret2
    exact ⟨rfl, 0, rfl⟩
theorem orL (x y : Int) (h1 : 0 ≤ x) (h2 : x < 16) (h3 : 0 ≤ y) (h4 : y < 16) : bits BinOp.or IntKind.i64 (x * 16) y % 256 = 16 * x + y := by
  have : ∀ a b : Fin 16, bits BinOp.or IntKind.i64 ((a.val : Int) * 16) (b.val : Int) % 256 = 16 * (a.val : Int) + (b.val : Int) := by decide +kernel
  have h := this ⟨x.toNat, by omega⟩ ⟨y.toNat, by omega⟩
  simp only [Int.toNat_of_nonneg h1, Int.toNat_of_nonneg h3] at h
  exact h
theorem hpu_any (s : ByteArray) (p : Bool) (W : World) (h : Lib.hasPrefix s.data.toList [92, 117, 48, 48] = p) : Calls Tryd.prog 71 #[.string s, .string ⟨#[92, 117, 48, 48]⟩] W fun e w' => e = .returned (.bool p) ∧ W = w' := by
  refine (Tryd.strings_HasPrefix s ⟨#[92, 117, 48, 48]⟩ W).mono ?_
  rintro e w' ⟨rfl, rfl⟩
  exact ⟨by rw [h], rfl⟩
set_option maxHeartbeats 4000000 in
set_option maxRecDepth 100000 in
theorem noted_hex (s : ByteArray) (w : World) (hz : 2 ≤ s.size) (h2 : s[0].toNat = 92) (h : ¬ (s[1].toNat = 110 ∨ s[1].toNat = 116 ∨ s[1].toNat = 34 ∨ s[1].toNat = 92)) (hm : s.size ≤ 140737488351232) :
    NotedAt s w (hexF s.data.toList) := by
  have t0 : 0 < s.size := by omega
  have t1 : 32 ≤ s[0].toNat := by omega
  have t2 : ((s[0].toNat : Int) == 127) = false := by rw [beq_eq_false_iff_ne]; omega
  have t3 : ((s[0].toNat : Int) == 34) = false := by rw [beq_eq_false_iff_ne]; omega
  have t4 : ((s[0].toNat : Int) != 92) = false := by rw [bne_eq_false_iff_eq]; omega
  have t6 : ((s[1].toNat : Int) == 110) = false := by rw [beq_eq_false_iff_ne]; omega
  have t7 : ((s[1].toNat : Int) == 116) = false := by rw [beq_eq_false_iff_ne]; omega
  have t8 : ((s[1].toNat : Int) == 34) = false := by rw [beq_eq_false_iff_ne]; omega
  have t9 : ((s[1].toNat : Int) == 92) = false := by rw [beq_eq_false_iff_ne]; omega
  clear h h2
  cases hp : Lib.hasPrefix s.data.toList [92, 117, 48, 48] with
  | false =>
    rw [show hexF s.data.toList = (0, 0) by unfold hexF; rw [if_neg (by rw [hp]; simp)]]
    have HP := Lib.hid hp
    clear hp
    unfold NotedAt
    go_enter Tryd.func55, Tryd.ntmps55
    go_wp2_with fail
    refine (hpu_any s false _ HP.out).mono ?_
    rintro e w1 ⟨rfl, rfl⟩
    go_wp2
    go_ret2
    exact ⟨rfl, 0, rfl⟩
  | true =>
    by_cases h6 : 6 ≤ s.size
    · have e4 : s.data.toList.getD 4 0 = s[4] := by have := at_of (s := s) rfl 4 (by omega); rw [List.getD_eq_getElem?_getD, ← this]; rfl
      have e5 : s.data.toList.getD 5 0 = s[5] := by have := at_of (s := s) rfl 5 (by omega); rw [List.getD_eq_getElem?_getD, ← this]; rfl
      have d4 := fun W => (digit_any s[4] W).mono (R' := fun e w' => e = .returned (.int .i64 (digI s[4])) ∧ w' = W) fun _ _ h => ⟨h.1, h.2.symm⟩
      have d5 := fun W => (digit_any s[5] W).mono (R' := fun e w' => e = .returned (.int .i64 (digI s[5])) ∧ w' = W) fun _ _ h => ⟨h.1, h.2.symm⟩
      have b4 := digI_le s[4]
      have b5 := digI_le s[5]
      have eF : hexF s.data.toList = if (0 : Int) ≤ digI s[4] ∧ (0 : Int) ≤ digI s[5] then ctl ((16 : Int) * digI s[4] + digI s[5]) else (0, 0) := by
        unfold hexF; rw [e4, e5]
        by_cases hh : (0 : Int) ≤ digI s[4] ∧ (0 : Int) ≤ digI s[5]
        · rw [if_pos hh, if_pos ⟨hp, by rw [Array.length_toList]; exact h6, hh⟩]
        · rw [if_neg hh, if_neg (fun z => hh z.2.2)]
      rw [eF]
      have D4 := Lib.hid d4; have D5 := Lib.hid d5; have HP := Lib.hid hp
      clear eF e4 e5 hp d4 d5
      generalize digI s[4] = x at *
      generalize digI s[5] = y at *
      by_cases hx : 0 ≤ x
      · by_cases hy : 0 ≤ y
        · rw [if_pos ⟨hx, hy⟩]
          unfold NotedAt
          go_enter Tryd.func55, Tryd.ntmps55
          go_wp2_with fail
          refine (hpu_any s true _ HP.out).mono ?_
          rintro e w1 ⟨rfl, rfl⟩
          go_wp2_with fail
          refine (D4.out _).mono ?_
          rintro e w1 ⟨rfl, rfl⟩
          go_wp2_with fail
          refine (D5.out _).mono ?_
          rintro e w1 ⟨rfl, rfl⟩
          go_wp2_with fail
          go_quiet ((first | (go_at_call 72; exact Calls.quiet_of_same (D4.out _)) | (go_at_call 72; exact Calls.quiet_of_same (D5.out _))))
          obtain ⟨n, hn⟩ : ∃ n, 16 * x + y = n := ⟨_, rfl⟩
          rw [orL x y hx b4.2 hy b5.2, hn]
          have HB4 := Lib.hid b4; have HB5 := Lib.hid b5
          clear b4 b5
          have n0 : 0 ≤ n := by have := HB4.out; have := HB5.out; omega
          have n1 : n < 256 := by have := HB4.out; have := HB5.out; omega
          have HN := Lib.hid hn
          clear hx hy D4 D5 HB4 HB5 hn
          by_cases c1 : 32 ≤ n
          · by_cases c2 : n = 127
            · subst c2
              have HE := Lib.hid (show ctl 127 = (127, 6) from rfl)
              go_wp2
              go_ret2
              exact ⟨by rw [HN.out, HE.out]; rfl, _, rfl⟩
            · have HE := Lib.hid (show ctl n = (0, 0) by unfold ctl; rw [if_pos (.inl ⟨c1, c2⟩)])
              have c2' : (n != 127) = true := by rw [bne_iff_ne]; exact c2
              clear c2
              go_wp2
              go_ret2
              exact ⟨by rw [HN.out, HE.out]; rfl, _, rfl⟩
          · by_cases c3 : n = 10
            · subst c3
              have HE := Lib.hid (show ctl 10 = (0, 0) from rfl)
              go_wp2
              go_ret2
              exact ⟨by rw [HN.out, HE.out]; rfl, _, rfl⟩
            · by_cases c4 : n = 9
              · subst c4
                have HE := Lib.hid (show ctl 9 = (0, 0) from rfl)
                go_wp2
                go_ret2
                exact ⟨by rw [HN.out, HE.out]; rfl, _, rfl⟩
              · have e : ctl n = (UInt8.ofNat n.toNat, 6) := by unfold ctl; rw [if_neg (by omega)]
                have H2 := Lib.hid (show (((ctl n).1.toNat : Nat) : Int) = n by rw [e]; simp; omega)
                have H3 := Lib.hid (show (ctl n).2 = 6 by rw [e])
                have c3' : (n == 10) = false := by rw [beq_eq_false_iff_ne]; exact c3
                have c4' : (n == 9) = false := by rw [beq_eq_false_iff_ne]; exact c4
                clear c3 c4 e
                go_wp2
                go_ret2
                exact ⟨by rw [HN.out, H2.out, H3.out]; rfl, _, rfl⟩
        · rw [if_neg (by omega)]
          unfold NotedAt
          go_enter Tryd.func55, Tryd.ntmps55
          go_wp2_with fail
          refine (hpu_any s true _ HP.out).mono ?_
          rintro e w1 ⟨rfl, rfl⟩
          go_wp2_with fail
          refine (D4.out _).mono ?_
          rintro e w1 ⟨rfl, rfl⟩
          go_wp2_with fail
          refine (D5.out _).mono ?_
          rintro e w1 ⟨rfl, rfl⟩
          go_wp2
          go_ret2
          exact ⟨rfl, 0, rfl⟩
      · rw [if_neg (by omega)]
        unfold NotedAt
        go_enter Tryd.func55, Tryd.ntmps55
        go_wp2_with fail
        refine (hpu_any s true _ HP.out).mono ?_
        rintro e w1 ⟨rfl, rfl⟩
        go_wp2_with fail
        refine (D4.out _).mono ?_
        rintro e w1 ⟨rfl, rfl⟩
        go_wp2
        go_ret2
        exact ⟨rfl, 0, rfl⟩
    · rw [show hexF s.data.toList = (0, 0) by unfold hexF; rw [if_neg (by rw [Array.length_toList]; exact fun z => h6 z.2.1)]]
      have HP := Lib.hid hp
      clear hp
      unfold NotedAt
      go_enter Tryd.func55, Tryd.ntmps55
      go_wp2_with fail
      refine (hpu_any s true _ HP.out).mono ?_
      rintro e w1 ⟨rfl, rfl⟩
      go_wp2
      go_ret2
      exact ⟨rfl, 0, rfl⟩
theorem noted_any (s : ByteArray) (c : UInt8) (t : List UInt8) (hs : s.data.toList = c :: t) (hm : s.size ≤ 140737488351232) (w : World) : NotedAt s w (notedF s.data.toList) := by
  have hz : 0 < s.size := by rw [size_of hs]; simp
  have h0 : s[0] = c := by have := at_of hs 0 hz; simpa using this
  by_cases c1 : c.toNat < 32 ∨ c.toNat = 127 ∨ c.toNat = 34
  · rw [show notedF s.data.toList = (0, 0) by rw [hs]; show (if _ then _ else _) = _; rw [if_pos c1]]
    exact noted_head s w hz (by rw [h0]; exact c1)
  · by_cases c2 : c.toNat = 92
    · cases t with
      | nil =>
        rw [show notedF s.data.toList = (0, 0) by rw [hs]; show (if _ then _ else if _ then _ else _) = _; rw [if_neg c1, if_neg (by omega)]]
        exact noted_one s w (by rw [size_of hs]; rfl) (by rw [h0]; exact c2)
      | cons d t =>
        have h2 : 2 ≤ s.size := by rw [size_of hs]; simp
        have h1 : s[1] = d := by have := at_of hs 1 h2; simpa using this
        have e : notedF s.data.toList = if d.toNat = 110 then (10, 2) else if d.toNat = 116 then (9, 2) else if d.toNat = 34 ∨ d.toNat = 92 then (d, 2) else hexF s.data.toList := by
          rw [hs]; show (if _ then _ else if _ then _ else _) = _; rw [if_neg c1, if_neg (by omega)]
        rw [e]
        by_cases c3 : d.toNat = 110 ∨ d.toNat = 116 ∨ d.toNat = 34 ∨ d.toNat = 92
        · have := noted_two s w h2 (by rw [h0]; exact c2) (by rw [h1]; exact c3)
          rw [h1] at this
          by_cases a : d.toNat = 110
          · rw [if_pos a] at this ⊢; exact this
          · rw [if_neg a] at this ⊢
            by_cases b : d.toNat = 116
            · rw [if_pos b] at this ⊢; exact this
            · rw [if_neg b] at this ⊢; rw [if_pos (by omega)]; exact this
        · rw [if_neg (by omega), if_neg (by omega), if_neg (by omega)]
          exact noted_hex s w h2 (by rw [h0]; exact c2) (by rw [h1]; exact c3) hm
    · rw [show notedF s.data.toList = (c, 1) by rw [hs]; show (if _ then _ else if _ then _ else _) = _; rw [if_neg c1, if_pos c2]]
      have := noted_plain s w hz (by rw [h0]; exact c1) (by rw [h0]; exact c2)
      rw [h0] at this
      exact this
/-- one byte of a text for a channel, and how long its code is; 0: there is none -/
def stepF (c : Int) (l : List UInt8) : UInt8 × Nat := if c = 1 then notedF l else if c = 2 then mailedF l else shortF l
def fromK (c : Int) : Nat → List UInt8 → Option (List UInt8)
  | 0, _ => none
  | k + 1, l => if l = [] then some [] else if (stepF c l).2 = 0 then none else (fromK c k (l.drop (stepF c l).2)).map ((stepF c l).1 :: ·)
theorem short_le (l : List UInt8) : (shortF l).2 ≤ l.length := by
  cases l with
  | nil => simp [shortF]
  | cons c t => rw [show shortF (c :: t) = if c.toNat < 32 ∨ 126 < c.toNat then (0, 0) else (c, 1) from rfl]; split <;> simp
theorem prefix_le {l p : List UInt8} (h : Lib.hasPrefix l p = true) : p.length ≤ l.length := by
  unfold Lib.hasPrefix at h; exact (List.isPrefixOf_iff_prefix.1 h).length_le
theorem mailed_le (l : List UInt8) : (mailedF l).2 ≤ l.length := by
  cases l with
  | nil => simp [mailedF]
  | cons c t =>
    rw [show mailedF (c :: t) = if entN c.toNat = [] then (c, 1) else match ents.find? fun n => Lib.hasPrefix (c :: t) (entN n) with
      | some n => (UInt8.ofNat n, (entN n).length)
      | none => (0, 0) from rfl]
    split
    · simp
    · split
      · rename_i h; have := List.find?_some h; exact prefix_le this
      · simp
theorem ctl_le (n : Int) : (ctl n).2 ≤ 6 := by unfold ctl; split <;> simp
theorem noted_le (l : List UInt8) : (notedF l).2 ≤ l.length := by
  cases l with
  | nil => simp [notedF]
  | cons c t =>
    rw [show notedF (c :: t) = if c.toNat < 32 ∨ c.toNat = 127 ∨ c.toNat = 34 then (0, 0) else if c.toNat ≠ 92 then (c, 1) else match t with
      | [] => (0, 0)
      | d :: _ => if d.toNat = 110 then (10, 2) else if d.toNat = 116 then (9, 2) else if d.toNat = 34 ∨ d.toNat = 92 then (d, 2) else hexF (c :: t) from rfl]
    split
    · simp
    · split
      · simp
      · cases t with
        | nil => simp
        | cons d t =>
          simp only
          repeat' split
          all_goals first | (simp; done) | skip
          unfold hexF
          split
          · rename_i h; have := ctl_le (16 * digI ((c :: d :: t).getD 4 0) + digI ((c :: d :: t).getD 5 0)); omega
          · simp
theorem stepF_le (c : Int) (l : List UInt8) : (stepF c l).2 ≤ l.length := by
  unfold stepF; split
  · exact noted_le l
  · split
    · exact mailed_le l
    · exact short_le l
end Go.Proofs.YtcbdihhnoicabaaDoor.Esc
