/- The laws of esc, as statements over bytes, for arguments of at most 1048576 bytes (EscChannels: for all). -/
import Derived.Test.YtcbdihhnoicabaaDoorPEx0
import Derived.Test.YtcbdihhnoicabaaDoorPEx2
import Derived.Test.YtcbdihhnoicabaaDoorPEx3
import Derived.Test.YtcbdihhnoicabaaDoorPEx4
import Derived.Test.YtcbdihhnoicabaaDoorEscFacts
namespace Go.Proofs.YtcbdihhnoicabaaDoor.EscPureE
open Go.RowKit Go.Proofs.YtcbdihhnoicabaaDoor.PE Go.Proofs.YtcbdihhnoicabaaDoor.Esc Go.Proofs.YtcbdihhnoicabaaDoorW.PrintWords Go.Proofs.YtcbdihhnoicabaaDoorW.PrintLast
theorem lives_t : bellmanlaw13_lives.f = some true := by kernel_rfl
theorem wf8 {c : Int} (h : (Lit.int .u8 c).wf = true) : 0 ≤ c ∧ c ≤ 255 := by
  have h2 : (decide ((0 : Int) ≤ c) && decide (c ≤ (255 : Int))) = true := h
  simpa using h2
theorem app_eq (a b : List UInt8) : (⟨a.toArray⟩ : ByteArray) ++ ⟨b.toArray⟩ = ⟨(a ++ b).toArray⟩ := by
  apply str_eq; simp [ByteArray.data_append]
theorem data_app (s t : ByteArray) : (s ++ t).data.toList = s.data.toList ++ t.data.toList := by simp [ByteArray.data_append]
theorem to_ok {c : Int} (h0 : 0 ≤ c) (hc : 1 ≤ c ∧ c ≤ 3) {s : ByteArray} (hs : s.size ≤ 23456248059221) : esc_To.f c s = some (⟨(toL c s.data.toList).toArray⟩, 0) := by
  unfold esc_To.f; rw [if_pos h0, if_pos hc, if_pos hs]
theorem to_bad {c : Int} (h0 : 0 ≤ c) (hc : ¬ (1 ≤ c ∧ c ≤ 3)) (s : ByteArray) : esc_To.f c s = some (⟨#[]⟩, 1) := by
  unfold esc_To.f; rw [if_pos h0, if_neg hc]
theorem EscParts (c : Int) (s t : ByteArray) (hc : (Lit.int .u8 c).wf = true) (hs : s.size ≤ 1048576) (ht : t.size ≤ 1048576) : bellmanlaw13_EscParts.f c s t = some true := by
  have h0 := wf8 hc
  unfold bellmanlaw13_EscParts.f
  rw [lives_t]
  simp only [Option.bind_some, if_true]
  by_cases c3 : c = 3
  · rw [if_pos c3]
  rw [if_neg c3]
  have hst : (s ++ t).size = s.size + t.size := by simp
  by_cases hv : 1 ≤ c ∧ c ≤ 3
  · rw [to_ok h0.1 hv (by omega), to_ok h0.1 hv (s := t) (by omega), to_ok h0.1 hv (s := s ++ t) (by omega)]
    simp only [Option.bind_some, if_true]
    have l1 := toL_le c s.data.toList
    have l2 := toL_le c t.data.toList
    rw [if_pos (by omega), if_pos]
    · rw [data_app, app_eq, toL_flat c (by omega), toL_flat c (by omega), toL_flat c (by omega), List.flatMap_append]
      simp
    · show (toL c s.data.toList).toArray.size + (toL c t.data.toList).toArray.size ≤ _
      rw [List.size_toArray, List.size_toArray]
      have e1 := size_of (s := s) rfl
      have e2 := size_of (s := t) rfl
      omega
  · rw [to_bad h0.1 hv, to_bad h0.1 hv, to_bad h0.1 hv]
    have z : (⟨#[]⟩ : ByteArray) ++ ⟨#[]⟩ = ⟨#[]⟩ := app_eq [] []
    simp only [Option.bind_some, if_true, z]
    rw [if_pos (by omega), if_pos (by decide)]
    simp
theorem EscChannels : bellmanlaw13_EscChannels.Pure := by
  intro c s hc _
  have h0 := wf8 hc
  have hm : esc_Most.f c = bellmanref13_Most.f c := rfl
  have hn : esc_Name.f c = bellmanref13_Name.f c := by
    unfold esc_Name.f bellmanref13_Name.f
    rw [if_pos h0.1]
    by_cases c1 : c = 1
    · subst c1; rfl
    by_cases c2 : c = 2
    · subst c2; rfl
    by_cases c3 : c = 3
    · subst c3; rfl
    rw [if_neg (by omega), if_neg c1, if_neg c2, if_neg c3]
  have hd : esc_Named.f s = bellmanref13_Named.f s := by
    unfold esc_Named.f bellmanref13_Named.f namedI
    by_cases c1 : s.toList = nameL 1
    · rw [if_pos c1]; rw [if_pos (show s.toList = ([112, 117, 115, 104] : List UInt8) from c1)]
    rw [if_neg c1]; rw [if_neg (show ¬ s.toList = ([112, 117, 115, 104] : List UInt8) from c1)]
    by_cases c2 : s.toList = nameL 2
    · rw [if_pos c2]; rw [if_pos (show s.toList = ([101, 109, 97, 105, 108] : List UInt8) from c2)]
    rw [if_neg c2]; rw [if_neg (show ¬ s.toList = ([101, 109, 97, 105, 108] : List UInt8) from c2)]
    by_cases c3 : s.toList = nameL 3
    · rw [if_pos c3]; rw [if_pos (show s.toList = ([115, 109, 115] : List UInt8) from c3)]
    rw [if_neg c3]; rw [if_neg (show ¬ s.toList = ([115, 109, 115] : List UInt8) from c3)]
  unfold bellmanlaw13_EscChannels.f
  rw [lives_t, hm, hn, hd]
  obtain ⟨a, ha⟩ : ∃ a, bellmanref13_Most.f c = some a := by unfold bellmanref13_Most.f; repeat' split
                                                             all_goals exact ⟨_, rfl⟩
  obtain ⟨b, hb⟩ : ∃ b, bellmanref13_Name.f c = some b := by unfold bellmanref13_Name.f; repeat' split
                                                             all_goals exact ⟨_, rfl⟩
  obtain ⟨d, hd'⟩ : ∃ d, bellmanref13_Named.f s = some d := by unfold bellmanref13_Named.f; repeat' split
                                                               all_goals exact ⟨_, rfl⟩
  rw [ha, hb, hd']
  simp
theorem from_ok {c : Int} (h0 : 0 ≤ c) (hc : 1 ≤ c ∧ c ≤ 3) {s : ByteArray} (hs : s.size ≤ 140737488351232) : esc_From.f c s = some (⟨(fromR c s.data.toList).1.toArray⟩, (fromR c s.data.toList).2) := by
  unfold esc_From.f; rw [if_pos h0, if_pos hc, if_pos hs]
theorem from_bad {c : Int} (h0 : 0 ≤ c) (hc : ¬ (1 ≤ c ∧ c ≤ 3)) (s : ByteArray) : esc_From.f c s = some (⟨#[]⟩, 1) := by
  unfold esc_From.f; rw [if_pos h0, if_neg hc]
theorem flat_le (c : Int) (l : List UInt8) : l.length ≤ (l.flatMap fun b => codeN c b.toNat).length := by
  induction l with
  | nil => simp
  | cons b l ih => have := code_le c b.toNat; rw [List.flatMap_cons, List.length_append, List.length_cons]; omega
theorem fromR_to (c : Int) (hc : 1 ≤ c ∧ c ≤ 3) (l : List UInt8) : (fromR c (toL c l)).2 = 0 ∧ (c ≠ 3 → (fromR c (toL c l)).1 = l) := by
  by_cases h3 : c = 3
  · subst h3
    refine ⟨?_, fun h => absurd rfl h⟩
    unfold fromR; rw [toL_3, from_sms_ok _ (smsF_plain l) _ (Nat.lt_succ_self _)]
  · have h : fromK c ((toL c l).length + 1) (toL c l) = some l := by
      rw [toL_flat c (by omega)]
      exact from_to c (by omega) l _ (by have := flat_le c l; omega)
    unfold fromR; rw [h]; exact ⟨rfl, fun _ => rfl⟩
theorem toL_from (c : Int) (hc : 1 ≤ c ∧ c ≤ 3) {k : Nat} {l r : List UInt8} (h : fromK c k l = some r) : toL c r = l ∧ r.length ≤ l.length := by
  by_cases h3 : c = 3
  · subst h3
    obtain ⟨rfl, hp⟩ := from_sms_eq k l r h
    exact ⟨by rw [toL_3, smsF_id _ hp], Nat.le_refl _⟩
  · have := to_from c (by omega) k l r h
    refine ⟨by rw [toL_flat c (by omega), this], ?_⟩
    have h2 := flat_le c r
    rw [this] at h2; exact h2
theorem bytes_back (s : ByteArray) : (⟨s.data.toList.toArray⟩ : ByteArray) = s := by obtain ⟨⟨l⟩⟩ := s; rfl
theorem EscBack (c : Int) (s t : ByteArray) (hc : (Lit.int .u8 c).wf = true) (hs : s.size ≤ 1048576) (ht : t.size ≤ 1048576) : ∃ k, bellmanlaw13_EscBack.f k c s t = some true := by
  refine ⟨1, ?_⟩
  have h0 := wf8 hc
  unfold bellmanlaw13_EscBack.f
  rw [lives_t]
  simp only [Option.bind_some, if_true]
  by_cases hv : 1 ≤ c ∧ c ≤ 3
  · have e1 := size_of (s := s) rfl
    have e2 := size_of (s := t) rfl
    have l1 := toL_le c s.data.toList
    rw [to_ok h0.1 hv (by omega)]
    simp only [Option.bind_some]
    rw [from_ok h0.1 hv (by show (toL c s.data.toList).toArray.size ≤ _; rw [List.size_toArray]; omega)]
    simp only [Option.bind_some, if_true]
    obtain ⟨f1, f2⟩ := fromR_to c hv s.data.toList
    rw [f1]
    simp only [if_true]
    have last : bellmanlaw13_EscBack.j0 1 c t false = some true := by
      simp only [bellmanlaw13_EscBack.j0]
      rw [if_neg (by decide), from_ok h0.1 hv (by omega)]
      simp only [Option.bind_some]
      unfold fromR
      cases hf : fromK c (t.data.toList.length + 1) t.data.toList with
      | none =>
        simp only
        rw [to_ok h0.1 hv (by decide)]
        simp only [Option.bind_some]
        rw [if_neg (by decide), if_pos (by first | (simp; done) | kernel_rfl)]
      | some r =>
        obtain ⟨g1, g2⟩ := toL_from c hv hf
        simp only
        rw [to_ok h0.1 hv (by show r.toArray.size ≤ _; rw [List.size_toArray]; omega)]
        simp only [Option.bind_some, if_true]
        rw [show toL c r = t.data.toList from g1, bytes_back]
        simp
    by_cases h3 : c = 3
    · rw [if_pos h3]; exact last
    · rw [if_neg h3, f2 h3, bytes_back]
      simp only [bne_self_eq_false]
      exact last
  · rw [to_bad h0.1 hv]
    simp only [Option.bind_some]
    rw [from_bad h0.1 hv]
    simp
/-- what EscSafe asks of each byte -/
def SafeB (c : Int) (l : List UInt8) (i : Nat) (x : UInt8) : Prop :=
  if c = 1 then 32 ≤ x.toNat ∧ x.toNat ≠ 127 ∧ (x.toNat = 34 → 0 < i ∧ l[i - 1]? = some 92) else if c = 2 then x.toNat ≠ 60 ∧ x.toNat ≠ 62 ∧ x.toNat ≠ 34 ∧ x.toNat ≠ 39 else 32 ≤ x.toNat ∧ x.toNat ≤ 126
theorem safe_l (c : Int) (l : List UInt8) (hl : l.length ≤ 100000000) (h : ∀ (i : Nat) (x : UInt8), l[i]? = some x → SafeB c l i x) : ∀ (r k i : Nat), i + r = l.length → r < k → bellmanlaw13_EscSafe.l0 k c ⟨l.toArray⟩ i = some true := by
  have hb : ∀ (i : Nat) (x : UInt8), l[i]? = some x → bt ⟨l.toArray⟩ (i : Int) = x.toNat := by
    intro i x hx
    have hlt : i < l.length := by
      rcases Nat.lt_or_ge i l.length with h' | h'
      · exact h'
      · rw [List.getElem?_eq_none h'] at hx; cases hx
    have hz : i < (⟨l.toArray⟩ : ByteArray).size := by show i < l.toArray.size; rw [List.size_toArray]; exact hlt
    have ha := at_of (s := ⟨l.toArray⟩) (l := l) rfl i hz
    rw [hx] at ha
    rw [← bt_at _ _ (by simpa using hz)]
    simp only [Int.toNat_natCast]
    rw [Option.some.inj ha]
  intro r
  induction r with
  | zero =>
    intro k i hi hk
    obtain ⟨k, rfl⟩ : ∃ j, k = j + 1 := ⟨k - 1, by omega⟩
    simp only [bellmanlaw13_EscSafe.l0]
    rw [if_neg]
    show ¬ (i : Int) < ((l.toArray.size : Nat) : Int)
    rw [List.size_toArray]; omega
  | succ r ih =>
    intro k i hi hk
    obtain ⟨k, rfl⟩ : ∃ j, k = j + 1 := ⟨k - 1, by omega⟩
    have hlt : i < l.length := by omega
    have hx : l[i]? = some l[i] := List.getElem?_eq_getElem hlt
    have hs := h i _ hx
    have nx := ih k (i + 1) (by omega) (by omega)
    simp only [bellmanlaw13_EscSafe.l0]
    have hsz : ((⟨l.toArray⟩ : ByteArray).size : Int) = l.length := by show ((l.toArray.size : Nat) : Int) = _; rw [List.size_toArray]
    have w1 : wrap64 ((i : Int) + 1) = ((i + 1 : Nat) : Int) := by unfold wrap64; omega
    rw [hsz, if_pos (by omega), if_pos (by omega), hb i _ hx, w1, nx]
    unfold SafeB at hs
    by_cases c1 : c = 1
    · rw [if_pos c1] at hs ⊢
      rw [if_neg (by omega), if_neg (by omega)]
      by_cases q : l[i].toNat = 34
      · obtain ⟨p1, p2⟩ := hs.2.2 q
        have w2 : wrap64 ((i : Int) - 1) = ((i - 1 : Nat) : Int) := by unfold wrap64; omega
        rw [if_pos (by omega), if_neg (by omega), w2, if_pos (by omega), if_pos (by omega), hb _ _ p2, if_pos (by decide)]
      · rw [if_neg (by omega)]
    · rw [if_neg c1] at hs ⊢
      by_cases c2 : c = 2
      · rw [if_pos c2] at hs ⊢
        rw [if_neg (by omega), if_neg (by omega), if_neg (by omega), if_neg (by omega)]
      · rw [if_neg c2] at hs ⊢
        rw [if_neg (by omega), if_neg (by omega)]
def Quo (l : List UInt8) : Prop := ∀ (i : Nat) (x : UInt8), l[i]? = some x → 32 ≤ x.toNat ∧ x.toNat ≠ 127 ∧ (x.toNat = 34 → 0 < i ∧ l[i - 1]? = some 92)
theorem lt_of_get {l : List UInt8} {i : Nat} {x : UInt8} (h : l[i]? = some x) : i < l.length := by
  rcases Nat.lt_or_ge i l.length with h' | h'
  · exact h'
  · rw [List.getElem?_eq_none h'] at h; cases h
theorem quo_push (n : Nat) (hn : n < 256) : Quo (pushN n) := by
  have : ∀ n : Fin 256, ∀ i : Fin 6, ((pushN n.val)[i.val]?).all (fun x => decide (32 ≤ x.toNat) && decide (x.toNat ≠ 127) && (decide (x.toNat ≠ 34) || (decide (0 < i.val) && decide ((pushN n.val)[i.val - 1]? = some 92)))) = true := by decide +kernel
  intro i x hx
  have hi := lt_of_get hx
  have h6 := (pushN_le n).2
  have h := this ⟨n, hn⟩ ⟨i, by omega⟩
  simp only [hx, Option.all_some] at h
  simp only [Bool.and_eq_true, Bool.or_eq_true, decide_eq_true_eq] at h
  refine ⟨h.1.1, h.1.2, fun q => ?_⟩
  rcases h.2 with h | h
  · exact absurd q h
  · exact h
theorem quo_append {a b : List UInt8} (ha : Quo a) (hb : Quo b) : Quo (a ++ b) := by
  intro i x hx
  by_cases hi : i < a.length
  · rw [List.getElem?_append_left hi] at hx
    obtain ⟨h1, h2, h3⟩ := ha i x hx
    refine ⟨h1, h2, fun q => ?_⟩
    obtain ⟨g1, g2⟩ := h3 q
    exact ⟨g1, by rw [List.getElem?_append_left (by omega)]; exact g2⟩
  · rw [List.getElem?_append_right (by omega)] at hx
    obtain ⟨h1, h2, h3⟩ := hb _ x hx
    refine ⟨h1, h2, fun q => ?_⟩
    obtain ⟨g1, g2⟩ := h3 q
    exact ⟨by omega, by rw [List.getElem?_append_right (by omega), show i - 1 - a.length = i - a.length - 1 by omega]; exact g2⟩
theorem quo_note (l : List UInt8) : Quo (noteL l) := by
  induction l with
  | nil => intro i x h; simp [noteL] at h
  | cons c l ih => exact quo_append (quo_push c.toNat c.toNat_lt) ih
theorem mail_bytes (l : List UInt8) : ∀ x ∈ mailL l, x.toNat ≠ 60 ∧ x.toNat ≠ 62 ∧ x.toNat ≠ 34 ∧ x.toNat ≠ 39 := by
  have : ∀ n : Fin 256, (emailN n.val).all (fun x => decide (x.toNat ≠ 60) && decide (x.toNat ≠ 62) && decide (x.toNat ≠ 34) && decide (x.toNat ≠ 39)) = true := by decide +kernel
  intro x hx
  obtain ⟨c, _, h⟩ := List.mem_flatMap.1 hx
  have h2 := List.all_eq_true.1 (this ⟨c.toNat, c.toNat_lt⟩) x h
  simp only [Bool.and_eq_true, decide_eq_true_eq] at h2
  exact ⟨h2.1.1.1, h2.1.1.2, h2.1.2, h2.2⟩
theorem safe_all (c : Int) (hc : 1 ≤ c ∧ c ≤ 3) (l : List UInt8) : ∀ (i : Nat) (x : UInt8), (toL c l)[i]? = some x → SafeB c (toL c l) i x := by
  intro i x hx
  unfold SafeB
  by_cases c1 : c = 1
  · subst c1; rw [if_pos rfl]; exact quo_note l i x hx
  · rw [if_neg c1]
    by_cases c2 : c = 2
    · subst c2; rw [if_pos rfl]; exact mail_bytes l x (List.mem_of_getElem? hx)
    · rw [if_neg c2]
      obtain rfl : c = 3 := by omega
      exact smsF_plain l x (List.mem_of_getElem? hx)
theorem EscSafe (c : Int) (s : ByteArray) (hc : (Lit.int .u8 c).wf = true) (hs : s.size ≤ 1048576) : ∃ k, bellmanlaw13_EscSafe.f k c s = some true := by
  have h0 := wf8 hc
  by_cases hv : 1 ≤ c ∧ c ≤ 3
  · have e1 := size_of (s := s) rfl
    have l1 := toL_le c s.data.toList
    have hsafe := safe_l c (toL c s.data.toList) (by omega) (safe_all c hv _) (toL c s.data.toList).length ((toL c s.data.toList).length + 1) 0 (by omega) (by omega)
    refine ⟨(toL c s.data.toList).length + 2, ?_⟩
    unfold bellmanlaw13_EscSafe.f
    rw [lives_t, to_ok h0.1 hv (by omega)]
    have hsz : (⟨(toL c s.data.toList).toArray⟩ : ByteArray).size = (toL c s.data.toList).length := by show (toL c s.data.toList).toArray.size = _; rw [List.size_toArray]
    have hj : bellmanlaw13_EscSafe.j0 ((toL c s.data.toList).length + 2) c ⟨(toL c s.data.toList).toArray⟩ false = some true := by
      simp only [bellmanlaw13_EscSafe.j0]; rw [if_neg (by decide)]; exact hsafe
    simp only [Option.bind_some, if_true, hsz]
    by_cases c3 : c = 3
    · rw [if_pos c3, if_neg]
      · exact hj
      · have := smsF_le s.data.toList
        subst c3; rw [toL_3]; omega
    · rw [if_neg c3, decide_eq_false]
      · exact hj
      · have := flat_le c s.data.toList
        rw [toL_flat c (by omega)]; omega
  · refine ⟨1, ?_⟩
    unfold bellmanlaw13_EscSafe.f
    rw [lives_t, to_bad h0.1 hv]
    simp
end Go.Proofs.YtcbdihhnoicabaaDoor.EscPureE
