/- Plain facts on esc's codes: what a byte's code is read as, and back. -/
import Derived.Test.YtcbdihhnoicabaaDoorEscRef
namespace Go.Proofs.YtcbdihhnoicabaaDoor.Esc
open Go.RowKit
theorem byte_all {P : UInt8 → Prop} (h : ∀ n : Nat, n < 256 → P (UInt8.ofNat n)) (c : UInt8) : P c := by
  have := h c.toNat c.toNat_lt
  simpa using this
theorem ofNat_toNat {n : Nat} (h : n < 256) : (UInt8.ofNat n).toNat = n := by simp; omega
theorem hexd (i : Nat) (h : i < 16) : digI (hexL.getD i 0) = i := by
  have : ∀ i : Fin 16, digI (hexL.getD i.val 0) = i.val := by decide +kernel
  exact this ⟨i, h⟩
theorem hex_of (c : UInt8) (h : 0 ≤ digI c) : hexL.getD (digI c).toNat 0 = c := by
  have : ∀ i : Fin 256, 0 ≤ digI (UInt8.ofNat i.val) → hexL.getD (digI (UInt8.ofNat i.val)).toNat 0 = UInt8.ofNat i.val := by decide +kernel
  have h2 := this ⟨c.toNat, c.toNat_lt⟩
  simp only [UInt8.ofNat_toNat] at h2
  exact h2 h
theorem noted_cons (c : UInt8) (t : List UInt8) : notedF (c :: t) = if c.toNat < 32 ∨ c.toNat = 127 ∨ c.toNat = 34 then (0, 0) else if c.toNat ≠ 92 then (c, 1) else match t with
    | [] => (0, 0)
    | d :: _ => if d.toNat = 110 then (10, 2) else if d.toNat = 116 then (9, 2) else if d.toNat = 34 ∨ d.toNat = 92 then (d, 2) else hexF (c :: t) := rfl
/-- a byte's code for a note is read as that byte -/
theorem noted_push (n : Nat) (hn : n < 256) (rest : List UInt8) : notedF (pushN n ++ rest) = (UInt8.ofNat n, (pushN n).length) := by
  by_cases c1 : n = 10
  · subst c1; rfl
  by_cases c2 : n = 9
  · subst c2; rfl
  by_cases c3 : n < 32 ∨ n = 127
  · have e : pushN n = [92, 117, 48, 48, hexL.getD (n / 16) 0, hexL.getD (n % 16) 0] := by unfold pushN; rw [if_neg c1, if_neg c2, if_pos c3]
    rw [e]
    have h1 := hexd (n / 16) (by omega)
    have h2 := hexd (n % 16) (by omega)
    show notedF (92 :: 117 :: 48 :: 48 :: hexL.getD (n / 16) 0 :: hexL.getD (n % 16) 0 :: rest) = _
    rw [noted_cons, if_neg (by decide), if_neg (by decide)]
    simp only
    rw [if_neg (by decide), if_neg (by decide), if_neg (by decide)]
    unfold hexF
    rw [if_pos (by
      refine ⟨?_, by simp, ?_, ?_⟩
      · simp [Lib.hasPrefix, List.isPrefixOf]
      · show 0 ≤ digI (hexL.getD (n / 16) 0); rw [h1]; omega
      · show 0 ≤ digI (hexL.getD (n % 16) 0); rw [h2]; omega)]
    show ctl (16 * digI (hexL.getD (n / 16) 0) + digI (hexL.getD (n % 16) 0)) = _
    rw [h1, h2]
    unfold ctl
    rw [if_neg (by omega)]
    show (UInt8.ofNat _, 6) = (UInt8.ofNat n, 6)
    congr 2; omega
  by_cases c4 : n = 34
  · subst c4; rfl
  by_cases c5 : n = 92
  · subst c5; rfl
  have e : pushN n = [UInt8.ofNat n] := by unfold pushN; rw [if_neg c1, if_neg c2, if_neg c3, if_neg (by omega)]
  rw [e]
  show notedF (UInt8.ofNat n :: rest) = _
  rw [noted_cons, ofNat_toNat hn, if_neg (by omega), if_pos c5]; rfl
theorem prefix_split {l p : List UInt8} (h : Lib.hasPrefix l p = true) : l = p ++ l.drop p.length := by
  obtain ⟨t, rfl⟩ := List.isPrefixOf_iff_prefix.1 h
  simp
theorem getD_append_right' (p t : List UInt8) (i : Nat) : (p ++ t).getD (p.length + i) 0 = t.getD i 0 := by
  rw [List.getD_eq_getElem?_getD, List.getD_eq_getElem?_getD, List.getElem?_append_right (by omega), Nat.add_sub_cancel_left]
theorem drop_two {l : List UInt8} (h : 2 ≤ l.length) : l = l.getD 0 0 :: l.getD 1 0 :: l.drop 2 := by
  match l, h with
  | a :: b :: t, _ => rfl
/-- what is read as a byte is that byte's code -/
theorem noted_back (l : List UInt8) (h : (notedF l).2 ≠ 0) : l = pushN (notedF l).1.toNat ++ l.drop (notedF l).2 ∧ (notedF l).2 = (pushN (notedF l).1.toNat).length := by
  cases l with
  | nil => exact absurd rfl h
  | cons c t =>
    rw [noted_cons] at h ⊢
    by_cases c1 : c.toNat < 32 ∨ c.toNat = 127 ∨ c.toNat = 34
    · rw [if_pos c1] at h; exact absurd rfl h
    rw [if_neg c1] at h ⊢
    by_cases c2 : c.toNat ≠ 92
    · rw [if_pos c2]
      have e : pushN c.toNat = [c] := by unfold pushN; rw [if_neg (by omega), if_neg (by omega), if_neg (by omega), if_neg (by omega)]; simp
      rw [e]; exact ⟨rfl, rfl⟩
    rw [if_neg c2] at h ⊢
    have hc : c = 92 := (u8_eq c 92 (by decide)).2 (by omega)
    subst hc
    cases t with
    | nil => exact absurd rfl h
    | cons d t =>
      simp only at h ⊢
      by_cases d1 : d.toNat = 110
      · rw [if_pos d1]
        obtain rfl : d = 110 := (u8_eq d 110 (by decide)).2 d1
        exact ⟨rfl, rfl⟩
      rw [if_neg d1] at h ⊢
      by_cases d2 : d.toNat = 116
      · rw [if_pos d2]
        obtain rfl : d = 116 := (u8_eq d 116 (by decide)).2 d2
        exact ⟨rfl, rfl⟩
      rw [if_neg d2] at h ⊢
      by_cases d3 : d.toNat = 34 ∨ d.toNat = 92
      · rw [if_pos d3]
        rcases d3 with d3 | d3
        · obtain rfl : d = 34 := (u8_eq d 34 (by decide)).2 d3
          exact ⟨rfl, rfl⟩
        · obtain rfl : d = 92 := (u8_eq d 92 (by decide)).2 d3
          exact ⟨rfl, rfl⟩
      rw [if_neg d3] at h ⊢
      generalize hl : (92 :: d :: t : List UInt8) = l at *
      unfold hexF at h ⊢
      by_cases hx : Lib.hasPrefix l [92, 117, 48, 48] = true ∧ 6 ≤ l.length ∧ 0 ≤ digI (l.getD 4 0) ∧ 0 ≤ digI (l.getD 5 0)
      · rw [if_pos hx] at h ⊢
        obtain ⟨p1, p2, p3, p4⟩ := hx
        unfold ctl at h ⊢
        have b1 := digI_le (l.getD 4 0)
        have b2 := digI_le (l.getD 5 0)
        have g1 := hex_of _ p3
        have g2 := hex_of _ p4
        by_cases hq : (32 ≤ 16 * digI (l.getD 4 0) + digI (l.getD 5 0) ∧ 16 * digI (l.getD 4 0) + digI (l.getD 5 0) ≠ 127) ∨ 16 * digI (l.getD 4 0) + digI (l.getD 5 0) = 10 ∨ 16 * digI (l.getD 4 0) + digI (l.getD 5 0) = 9
        · rw [if_pos hq] at h; exact absurd rfl h
        rw [if_neg hq]
        have hs := prefix_split p1
        have e4 : l.getD 4 0 = (l.drop 4).getD 0 0 := by
          have := getD_append_right' [92, 117, 48, 48] (l.drop 4) 0
          rw [show ([92, 117, 48, 48] : List UInt8) ++ l.drop 4 = l from hs.symm] at this
          exact this
        have e5 : l.getD 5 0 = (l.drop 4).getD 1 0 := by
          have := getD_append_right' [92, 117, 48, 48] (l.drop 4) 1
          rw [show ([92, 117, 48, 48] : List UInt8) ++ l.drop 4 = l from hs.symm] at this
          exact this
        have hd := drop_two (l := l.drop 4) (by simp; omega)
        rw [← e4, ← e5, List.drop_drop] at hd
        generalize l.getD 4 0 = x at *
        generalize l.getD 5 0 = y at *
        obtain ⟨a, ha⟩ : ∃ a : Nat, (a : Int) = digI x := ⟨(digI x).toNat, by omega⟩
        obtain ⟨b, hb⟩ : ∃ b : Nat, (b : Int) = digI y := ⟨(digI y).toNat, by omega⟩
        have en : (UInt8.ofNat (16 * digI x + digI y).toNat).toNat = 16 * a + b := by rw [ofNat_toNat (by omega)]; omega
        simp only [en]
        have ep : pushN (16 * a + b) = [92, 117, 48, 48, x, y] := by
          unfold pushN
          rw [if_neg (by omega), if_neg (by omega), if_pos (by omega), show (16 * a + b) / 16 = (digI x).toNat by omega, show (16 * a + b) % 16 = (digI y).toNat by omega, g1, g2]
        rw [ep]
        refine ⟨?_, rfl⟩
        rw [hs]
        show [92, 117, 48, 48] ++ l.drop 4 = [92, 117, 48, 48, x, y] ++ _
        rw [hd, ← hs]; rfl
      · rw [if_neg hx] at h; exact absurd rfl h
theorem mailed_cons (c : UInt8) (t : List UInt8) : mailedF (c :: t) = if entN c.toNat = [] then (c, 1) else match ents.find? fun n => Lib.hasPrefix (c :: t) (entN n) with
    | some n => (UInt8.ofNat n, (entN n).length)
    | none => (0, 0) := rfl
theorem entN_some {n : Nat} (h : entN n ≠ []) : n = 38 ∨ n = 60 ∨ n = 62 ∨ n = 34 ∨ n = 39 := by
  unfold entN at h
  by_cases c1 : n = 38
  · exact .inl c1
  by_cases c2 : n = 60
  · exact .inr (.inl c2)
  by_cases c3 : n = 62
  · exact .inr (.inr (.inl c3))
  by_cases c4 : n = 34
  · exact .inr (.inr (.inr (.inl c4)))
  by_cases c5 : n = 39
  · exact .inr (.inr (.inr (.inr c5)))
  rw [if_neg c1, if_neg c2, if_neg c3, if_neg c4, if_neg c5] at h
  exact absurd rfl h
theorem mailed_email (n : Nat) (hn : n < 256) (rest : List UInt8) : mailedF (emailN n ++ rest) = (UInt8.ofNat n, (emailN n).length) := by
  by_cases c : entN n = []
  · rw [show emailN n = [UInt8.ofNat n] by unfold emailN; rw [if_pos c]]
    show mailedF (UInt8.ofNat n :: rest) = _
    rw [mailed_cons, ofNat_toNat hn, if_pos c]; rfl
  · rcases entN_some c with rfl | rfl | rfl | rfl | rfl
    all_goals (simp [emailN, entN, mailed_cons, ents, Lib.hasPrefix, List.isPrefixOf, List.find?])
theorem mailed_back (l : List UInt8) (h : (mailedF l).2 ≠ 0) : l = emailN (mailedF l).1.toNat ++ l.drop (mailedF l).2 ∧ (mailedF l).2 = (emailN (mailedF l).1.toNat).length := by
  cases l with
  | nil => exact absurd rfl h
  | cons c t =>
    rw [mailed_cons] at h ⊢
    by_cases c1 : entN c.toNat = []
    · rw [if_pos c1]
      have e : emailN c.toNat = [c] := by unfold emailN; rw [if_pos c1]; simp
      rw [e]; exact ⟨rfl, rfl⟩
    · rw [if_neg c1] at h ⊢
      cases hf : ents.find? fun n => Lib.hasPrefix (c :: t) (entN n) with
      | none => rw [hf] at h; exact absurd rfl h
      | some n =>
        simp only
        have hp := List.find?_some hf
        have hm := List.mem_of_find?_eq_some hf
        have hn : n = 38 ∨ n = 60 ∨ n = 62 ∨ n = 34 ∨ n = 39 := by simpa [ents] using hm
        have en : (UInt8.ofNat n).toNat = n := ofNat_toNat (by omega)
        rw [en]
        have e : emailN n = entN n := by
          unfold emailN; rw [if_neg]; rcases hn with rfl | rfl | rfl | rfl | rfl <;> simp [entN]
        rw [e]
        exact ⟨prefix_split hp, rfl⟩
/-- a byte's code by channel -/
def codeN (c : Int) (n : Nat) : List UInt8 := if c = 1 then pushN n else emailN n
theorem code_le (c : Int) (n : Nat) : 1 ≤ (codeN c n).length := by unfold codeN; split; exact (pushN_le n).1; exact (emailN_le n).1
theorem step_code (c : Int) (hc : c = 1 ∨ c = 2) (n : Nat) (hn : n < 256) (rest : List UInt8) : stepF c (codeN c n ++ rest) = (UInt8.ofNat n, (codeN c n).length) := by
  rcases hc with rfl | rfl
  · exact noted_push n hn rest
  · exact mailed_email n hn rest
theorem step_back (c : Int) (hc : c = 1 ∨ c = 2) (l : List UInt8) (h : (stepF c l).2 ≠ 0) : l = codeN c (stepF c l).1.toNat ++ l.drop (stepF c l).2 ∧ (stepF c l).2 = (codeN c (stepF c l).1.toNat).length := by
  rcases hc with rfl | rfl
  · exact noted_back l h
  · exact mailed_back l h
theorem toL_flat (c : Int) (hc : c = 1 ∨ c = 2) (l : List UInt8) : toL c l = l.flatMap fun b => codeN c b.toNat := by
  rcases hc with rfl | rfl <;> rfl
/-- what To makes From reads back -/
theorem from_to (c : Int) (hc : c = 1 ∨ c = 2) (l : List UInt8) : ∀ k, l.length < k → fromK c k (l.flatMap fun b => codeN c b.toNat) = some l := by
  induction l with
  | nil => intro k hk; obtain ⟨k, rfl⟩ : ∃ j, k = j + 1 := ⟨k - 1, by omega⟩; simp [fromK]
  | cons b l ih =>
    intro k hk
    obtain ⟨k, rfl⟩ : ∃ j, k = j + 1 := ⟨k - 1, by omega⟩
    rw [List.flatMap_cons]
    have hs := step_code c hc b.toNat b.toNat_lt (l.flatMap fun b => codeN c b.toNat)
    have h1 := code_le c b.toNat
    rw [fromK_step (by intro h; rw [(List.append_eq_nil_iff.1 h).1] at h1; simp at h1) (by rw [hs]; omega), hs]
    simp only [List.drop_left, UInt8.ofNat_toNat]
    rw [ih k (Nat.lt_of_succ_lt_succ hk)]; rfl
/-- what From reads To makes again -/
theorem to_from (c : Int) (hc : c = 1 ∨ c = 2) : ∀ (k : Nat) (l r : List UInt8), fromK c k l = some r → (r.flatMap fun b => codeN c b.toNat) = l := by
  intro k
  induction k with
  | zero => intro l r h; simp [fromK] at h
  | succ k ih =>
    intro l r h
    by_cases hl : l = []
    · subst hl; simp [fromK] at h; subst h; rfl
    by_cases hz : (stepF c l).2 = 0
    · rw [fromK_bad hl hz] at h; cases h
    rw [fromK_step hl hz] at h
    obtain ⟨r', h1, rfl⟩ := Option.map_eq_some_iff.1 h
    rw [List.flatMap_cons, ih _ _ h1]
    exact (step_back c hc l hz).1.symm
def PlainB (c : UInt8) : Prop := 32 ≤ c.toNat ∧ c.toNat ≤ 126
theorem smsStep_plain (st : List UInt8 × Bool) (c : UInt8) (h : ∀ x ∈ st.1, PlainB x) : ∀ x ∈ (smsStep st c).1, PlainB x := by
  by_cases h1 : c.toNat = 10 ∨ c.toNat = 9
  · rw [sms10 _ _ h1]; intro x hx; rcases List.mem_append.1 hx with hx | hx
    · exact h x hx
    · simp at hx; subst hx; unfold PlainB; decide
  · by_cases h2 : 32 ≤ c.toNat ∧ c.toNat ≤ 126
    · rw [smsPlain _ _ h2.1 h2.2]; intro x hx; rcases List.mem_append.1 hx with hx | hx
      · exact h x hx
      · simp at hx; subst hx; exact h2
    · rw [smsOther _ _ (by omega) h2]; split
      · exact h
      · intro x hx; rcases List.mem_append.1 hx with hx | hx
        · exact h x hx
        · simp at hx; subst hx; unfold PlainB; decide
theorem smsF_plain' (l : List UInt8) : ∀ st : List UInt8 × Bool, (∀ x ∈ st.1, PlainB x) → ∀ x ∈ (l.foldl smsStep st).1, PlainB x := by
  induction l with
  | nil => intro st h; exact h
  | cons c l ih => intro st h; exact ih _ (smsStep_plain st c h)
theorem smsF_plain (l : List UInt8) : ∀ x ∈ (smsF l).1, PlainB x := smsF_plain' l _ (by simp)
theorem smsF_id' (l : List UInt8) (h : ∀ x ∈ l, PlainB x) : ∀ st : List UInt8 × Bool, (l.foldl smsStep st).1 = st.1 ++ l := by
  induction l with
  | nil => intro st; simp
  | cons c l ih =>
    intro st
    have hc := h c (by simp)
    rw [List.foldl_cons, ih (fun x hx => h x (by simp [hx])), smsPlain _ _ hc.1 hc.2]; simp
theorem smsF_id (l : List UInt8) (h : ∀ x ∈ l, PlainB x) : (smsF l).1 = l := by have := smsF_id' l h ([], false); simpa [smsF] using this
theorem short_cons (c : UInt8) (t : List UInt8) : stepF 3 (c :: t) = if c.toNat < 32 ∨ 126 < c.toNat then (0, 0) else (c, 1) := rfl
theorem from_sms_eq : ∀ (k : Nat) (l r : List UInt8), fromK 3 k l = some r → r = l ∧ ∀ x ∈ l, PlainB x := by
  intro k
  induction k with
  | zero => intro l r h; simp [fromK] at h
  | succ k ih =>
    intro l r h
    cases l with
    | nil => simp [fromK] at h; subst h; simp
    | cons c t =>
      by_cases hc : c.toNat < 32 ∨ 126 < c.toNat
      · rw [fromK_bad (by simp) (by rw [short_cons, if_pos hc])] at h; cases h
      · rw [fromK_step (by simp) (by rw [short_cons, if_neg hc]; exact Nat.one_ne_zero), short_cons, if_neg hc] at h
        obtain ⟨r', h1, rfl⟩ := Option.map_eq_some_iff.1 h
        obtain ⟨rfl, h2⟩ := ih _ _ h1
        refine ⟨rfl, ?_⟩
        intro x hx
        rcases List.mem_cons.1 hx with rfl | hx
        · unfold PlainB; omega
        · exact h2 x hx
theorem from_sms_ok (l : List UInt8) (h : ∀ x ∈ l, PlainB x) : ∀ k, l.length < k → fromK 3 k l = some l := by
  induction l with
  | nil => intro k hk; obtain ⟨k, rfl⟩ : ∃ j, k = j + 1 := ⟨k - 1, by omega⟩; simp [fromK]
  | cons c t ih =>
    intro k hk
    obtain ⟨k, rfl⟩ : ∃ j, k = j + 1 := ⟨k - 1, by omega⟩
    have hc : ¬ (c.toNat < 32 ∨ 126 < c.toNat) := by have := h c (by simp); unfold PlainB at this; omega
    rw [fromK_step (by simp) (by rw [short_cons, if_neg hc]; exact Nat.one_ne_zero), short_cons, if_neg hc]
    show (fromK 3 k t).map _ = _
    rw [ih (fun x hx => h x (by simp [hx])) k (Nat.lt_of_succ_lt_succ hk)]; rfl
theorem toL_3 (l : List UInt8) : toL 3 l = (smsF l).1 := rfl
/-- To's bytes are at most six times as many -/
theorem toL_le (c : Int) (l : List UInt8) : (toL c l).length ≤ 6 * l.length := by
  unfold toL; split
  · exact (noteL_le l).2
  · split
    · exact (mailL_le l).2
    · have := smsF_le l; omega
end Go.Proofs.YtcbdihhnoicabaaDoor.Esc
