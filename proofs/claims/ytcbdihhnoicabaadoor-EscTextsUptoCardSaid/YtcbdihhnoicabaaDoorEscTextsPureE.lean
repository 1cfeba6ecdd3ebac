/- EscTexts, as a statement over bytes: the program's To and From, and the reference's, are the same. For arguments of at most 1048576 bytes. -/
import Derived.Test.YtcbdihhnoicabaaDoorPEx0
import Derived.Test.YtcbdihhnoicabaaDoorPEx1
import Derived.Test.YtcbdihhnoicabaaDoorPEx2
import Derived.Test.YtcbdihhnoicabaaDoorEscPureE
namespace Go.Proofs.YtcbdihhnoicabaaDoor.EscPureE
open Go.RowKit Go.Proofs.YtcbdihhnoicabaaDoor.PE Go.Proofs.YtcbdihhnoicabaaDoor.Esc Go.Proofs.YtcbdihhnoicabaaDoorW.PrintWords Go.Proofs.YtcbdihhnoicabaaDoorW.PrintLast
theorem tl_mk (l : List UInt8) : (⟨l.toArray⟩ : ByteArray).toList = l := by rw [ByteArray.toList_eq]
theorem w64 {x : Int} (h1 : -9223372036854775808 ≤ x) (h2 : x ≤ 9223372036854775807) : wrap64 x = x := by unfold wrap64; omega
theorem sz_mk (l : List UInt8) : (⟨l.toArray⟩ : ByteArray).size = l.length := by show l.toArray.size = _; rw [List.size_toArray]
theorem is_f (c : Int) : bellmanref13_Is.f c = some (decide (1 ≤ c ∧ c ≤ 3)) := by
  unfold bellmanref13_Is.f
  by_cases c1 : c = 1
  · subst c1; rfl
  by_cases c2 : c = 2
  · subst c2; rfl
  rw [if_neg c1, if_neg c2]
  by_cases c3 : c = 3
  · subst c3; rfl
  · rw [decide_eq_false (by omega)]; simp [c3]
theorem bt_f {s : ByteArray} {L : List UInt8} (hs : s.data.toList = L) (i : Nat) (h : i < L.length) : bt s (i : Int) = (L[i].toNat : Int) := by
  have hz : i < s.size := by rw [size_of hs]; exact h
  have ha := at_of hs i hz
  rw [List.getElem?_eq_getElem h] at ha
  rw [← bt_at _ _ (by simpa using hz)]
  simp only [Int.toNat_natCast]
  rw [Option.some.inj ha]
theorem push_f (n : Nat) (h : n < 256) : bellmanref13_push.f (n : Int) = some ⟨(pushN n).toArray⟩ := by
  unfold bellmanref13_push.f; rw [if_pos (by omega)]; simp
theorem email_f (n : Nat) (h : n < 256) : bellmanref13_email.f (n : Int) = some ⟨(emailN n).toArray⟩ := by
  unfold bellmanref13_email.f
  by_cases c1 : n = 38
  · subst c1; rfl
  by_cases c2 : n = 60
  · subst c2; rfl
  by_cases c3 : n = 62
  · subst c3; rfl
  by_cases c4 : n = 34
  · subst c4; rfl
  by_cases c5 : n = 39
  · subst c5; rfl
  rw [if_neg (by omega), if_neg (by omega), if_neg (by omega), if_neg (by omega), if_neg (by omega)]
  have e : emailN n = [UInt8.ofNat n] := by
    unfold emailN entN; rw [if_neg c1, if_neg c2, if_neg c3, if_neg c4, if_neg c5]; rfl
  rw [e]; simp [strOfNums, UInt8.ofNat]
theorem plain_f (n : Int) : bellmanref13_plain.f n = some (decide (32 ≤ n ∧ n ≤ 126)) := by
  unfold bellmanref13_plain.f
  by_cases h : n ≥ 32
  · rw [if_pos h]; simp; omega
  · rw [if_neg h, decide_eq_false (by omega)]
theorem drop_cons {L : List UInt8} {i : Nat} (h : i < L.length) : L.drop i = L[i] :: L.drop (i + 1) := List.drop_eq_getElem_cons h
theorem refTo12 (c : Int) (hc : c = 1 ∨ c = 2) {s : ByteArray} {L : List UInt8} (hs : s.data.toList = L) (hL : L.length ≤ 1048576) (run : Bool) : ∀ (r k i : Nat) (acc : List UInt8), i + r = L.length → r < k → acc.length ≤ 6 * i →
    bellmanref13_To.l0 k c s ⟨acc.toArray⟩ run i = some (⟨(acc ++ (L.drop i).flatMap fun b => codeN c b.toNat).toArray⟩, 0) := by
  intro r
  induction r with
  | zero =>
    intro k i acc hi hk ha
    obtain ⟨k, rfl⟩ : ∃ j, k = j + 1 := ⟨k - 1, by omega⟩
    simp only [bellmanref13_To.l0]
    rw [size_of hs, if_neg (by omega), List.drop_eq_nil_of_le (by omega)]; simp
  | succ r ih =>
    intro k i acc hi hk ha
    obtain ⟨k, rfl⟩ : ∃ j, k = j + 1 := ⟨k - 1, by omega⟩
    have hlt : i < L.length := by omega
    have hcode : ∀ q : List UInt8, q.length ≤ 6 → bellmanref13_To.l0 k c s ((⟨acc.toArray⟩ : ByteArray) ++ ⟨q.toArray⟩) run (wrap64 ((i : Int) + 1)) = some (⟨((acc ++ q) ++ (L.drop (i + 1)).flatMap fun b => codeN c b.toNat).toArray⟩, 0) := by
      intro q hq
      rw [app_eq, w64 (by omega) (by omega)]
      exact ih k (i + 1) (acc ++ q) (by omega) (by omega) (by simp; omega)
    rw [drop_cons hlt, List.flatMap_cons, ← List.append_assoc]
    simp only [bellmanref13_To.l0]
    rw [size_of hs, if_pos (by omega), if_pos (by omega), bt_f hs i hlt]
    rcases hc with rfl | rfl
    · rw [if_pos rfl, push_f _ L[i].toNat_lt]
      simp only [Option.bind_some]
      have := (pushN_le L[i].toNat).2
      rw [if_pos (by rw [sz_mk, sz_mk]; omega)]
      exact hcode _ this
    · rw [if_neg (by decide), if_pos rfl, email_f _ L[i].toNat_lt]
      simp only [Option.bind_some]
      have := (emailN_le L[i].toNat).2
      rw [if_pos (by rw [sz_mk, sz_mk]; omega)]
      exact hcode _ this
theorem nums_one (x : UInt8) : strOfNums [(x.toNat : Int)] = ⟨[x].toArray⟩ := by simp [strOfNums]
theorem refTo3 {s : ByteArray} {L : List UInt8} (hs : s.data.toList = L) (hL : L.length ≤ 1048576) : ∀ (r k i : Nat) (acc : List UInt8) (run : Bool), i + r = L.length → 3 * r < k → acc.length ≤ i →
    bellmanref13_To.l0 k 3 s ⟨acc.toArray⟩ run i = some (⟨((L.drop i).foldl smsStep (acc, run)).1.toArray⟩, 0) := by
  intro r
  induction r with
  | zero =>
    intro k i acc run hi hk ha
    obtain ⟨k, rfl⟩ : ∃ j, k = j + 1 := ⟨k - 1, by omega⟩
    simp only [bellmanref13_To.l0]
    rw [size_of hs, if_neg (by omega), List.drop_eq_nil_of_le (by omega)]; simp
  | succ r ih =>
    intro k i acc run hi hk ha
    obtain ⟨k, rfl⟩ : ∃ j, k = j + 3 := ⟨k - 3, by omega⟩
    have hlt : i < L.length := by omega
    have hw : wrap64 ((i : Int) + 1) = ((i + 1 : Nat) : Int) := by rw [w64 (by omega) (by omega)]; rfl
    have h2 : ∀ (x : UInt8) (run : Bool), 32 ≤ x.toNat ∧ x.toNat ≤ 126 → bellmanref13_To.j2 (k + 1) 3 s ⟨acc.toArray⟩ run i (x.toNat : Int) = some (⟨((L.drop (i + 1)).foldl smsStep (acc ++ [x], false)).1.toArray⟩, 0) := by
      intro x run hx
      simp only [bellmanref13_To.j2]
      rw [plain_f, decide_eq_true (by omega)]
      simp only [Option.bind_some, if_true]
      rw [nums_one, if_pos (by rw [sz_mk, sz_mk]; simp; omega), app_eq, hw]
      exact ih k (i + 1) (acc ++ [x]) false (by omega) (by omega) (by simp; omega)
    rw [drop_cons hlt, List.foldl_cons]
    simp only [bellmanref13_To.l0]
    rw [size_of hs, if_pos (by omega), if_pos (by omega), bt_f hs i hlt, if_neg (by decide), if_neg (by decide)]
    generalize L[i] = x
    by_cases c1 : x.toNat = 10 ∨ x.toNat = 9
    · rw [sms10 _ _ c1]
      have hj : bellmanref13_To.j1 (k + 2) 3 s ⟨acc.toArray⟩ run i x.toNat true = some (⟨((L.drop (i + 1)).foldl smsStep (acc ++ [32], false)).1.toArray⟩, 0) := by
        simp only [bellmanref13_To.j1]
        rw [if_pos trivial]
        exact h2 32 run (by decide)
      by_cases c2 : x.toNat = 10
      · rw [if_pos (by omega)]; exact hj
      · rw [if_neg (by omega), show (((x.toNat : Int)) == 9) = true by rw [beq_iff_eq]; omega]; exact hj
    · rw [if_neg (by omega), show (((x.toNat : Int)) == 9) = false by rw [beq_eq_false_iff_ne]; omega]
      simp only [bellmanref13_To.j1]
      rw [if_neg (by decide)]
      by_cases c2 : 32 ≤ x.toNat ∧ x.toNat ≤ 126
      · rw [smsPlain _ _ c2.1 c2.2]; exact h2 x run c2
      · rw [smsOther _ _ (by omega) c2]
        simp only [bellmanref13_To.j2]
        rw [plain_f, decide_eq_false (by omega)]
        simp only [Option.bind_some]
        rw [if_neg (by decide)]
        cases run with
        | true =>
          simp only [if_true]
          rw [hw]
          exact ih k (i + 1) acc true (by omega) (by omega) (by omega)
        | false =>
          simp only [Bool.false_eq_true, if_false]
          rw [if_pos (by rw [sz_mk]; omega), hw]
          have := ih k (i + 1) (acc ++ [63]) true (by omega) (by omega) (by simp; omega)
          rw [← app_eq] at this
          exact this
theorem refTo_eq (c : Int) (h0 : 0 ≤ c) (s : ByteArray) (hs : s.size ≤ 1048576) (k : Nat) (hk : 3 * s.size + 1 ≤ k) : bellmanref13_To.f k c s = esc_To.f c s := by
  unfold bellmanref13_To.f
  rw [is_f]
  have e := size_of (s := s) rfl
  by_cases hv : 1 ≤ c ∧ c ≤ 3
  · rw [decide_eq_true hv, to_ok h0 hv (by omega)]
    simp only [Option.bind_some, if_true]
    by_cases h3 : c = 3
    · subst h3
      exact refTo3 (s := s) rfl (by omega) s.data.toList.length k 0 [] false (by omega) (by omega) (by simp)
    · rw [toL_flat c (by omega)]
      exact refTo12 c (by omega) (s := s) rfl (by omega) false s.data.toList.length k 0 [] (by omega) (by omega) (by simp)
  · rw [decide_eq_false hv, to_bad h0 hv]; simp
def ints (l : List UInt8) : List Int := l.map fun b => (b.toNat : Int)
theorem ints_snoc (l : List UInt8) (x : UInt8) : ints l ++ [(x.toNat : Int)] = ints (l ++ [x]) := by simp [ints]
theorem ints_len (l : List UInt8) : (ints l).length = l.length := by simp [ints]
theorem nums_ints (l : List UInt8) : strOfNums (ints l) = ⟨l.toArray⟩ := by
  have : (ints l).map (fun n => UInt8.ofNat n.toNat) = l := by
    unfold ints; rw [List.map_map]
    conv => rhs; rw [← List.map_id l]
    apply List.map_congr_left
    intro x _
    simp
  unfold strOfNums
  rw [this]
def told (acc : List UInt8) (r : Option (List UInt8)) : ByteArray × Int := match r with
  | some q => (⟨(acc ++ q).toArray⟩, 0)
  | none => (⟨#[]⟩, 7)
theorem told_cons (acc : List UInt8) (x : UInt8) (r : Option (List UInt8)) : told (acc ++ [x]) r = told acc (r.map (x :: ·)) := by cases r <;> simp [told]
theorem refFrom3 {s : ByteArray} {L : List UInt8} (hs : s.data.toList = L) (hL : L.length ≤ 1048576) : ∀ (r k i : Nat) (acc : List UInt8), i + r = L.length → r < k → acc.length ≤ i →
    bellmanref13_From.l0 k 3 s (ints acc) i = some (told acc (fromK 3 (r + 1) (L.drop i))) := by
  intro r
  induction r with
  | zero =>
    intro k i acc hi hk ha
    obtain ⟨k, rfl⟩ : ∃ j, k = j + 1 := ⟨k - 1, by omega⟩
    simp only [bellmanref13_From.l0]
    rw [size_of hs, if_neg (by omega), List.drop_eq_nil_of_le (by omega), fromK_nil, nums_ints]; simp [told]
  | succ r ih =>
    intro k i acc hi hk ha
    obtain ⟨k, rfl⟩ : ∃ j, k = j + 1 := ⟨k - 1, by omega⟩
    have hlt : i < L.length := by omega
    have hw : wrap64 ((i : Int) + 1) = ((i + 1 : Nat) : Int) := by rw [w64 (by omega) (by omega)]; rfl
    rw [drop_cons hlt]
    simp only [bellmanref13_From.l0]
    rw [size_of hs, if_pos (by omega), if_pos trivial, if_pos (by omega), bt_f hs i hlt, plain_f]
    simp only [Option.bind_some]
    by_cases c : L[i].toNat < 32 ∨ 126 < L[i].toNat
    · rw [decide_eq_false (by omega), fromK_bad (l := L[i] :: L.drop (i + 1)) (List.cons_ne_nil _ _) (by rw [short_cons, if_pos c])]; rfl
    · have e : fromK 3 (r + 1 + 1) (L[i] :: L.drop (i + 1)) = (fromK 3 (r + 1) (L.drop (i + 1))).map (L[i] :: ·) := by
        rw [fromK_step (l := L[i] :: L.drop (i + 1)) (List.cons_ne_nil _ _) (by rw [short_cons, if_neg c]; exact Nat.one_ne_zero), short_cons, if_neg c]; rfl
      rw [e, ← told_cons, decide_eq_true (by omega), if_pos rfl, if_pos (by rw [ints_len]; omega), ints_snoc, hw]
      exact ih k (i + 1) _ (by omega) (by omega) (by simp; omega)
theorem pre_iff {s : ByteArray} {L : List UInt8} (hs : s.data.toList = L) (i : Nat) (q : List UInt8) : (s.extract i (i + q.length)).toList = (⟨q.toArray⟩ : ByteArray).toList ↔ Lib.hasPrefix (L.drop i) q = true := by
  rw [tl_mk, ByteArray.toList_eq, Lib.extract_data, hs, Nat.add_sub_cancel_left]
  unfold Lib.hasPrefix
  rw [List.isPrefixOf_iff_prefix, List.prefix_iff_eq_take]
  exact eq_comm
theorem skip {c : Int} (hc : c = 1 ∨ c = 2) {s : ByteArray} {L : List UInt8} (hs : s.data.toList = L) (hL : L.length ≤ 1048576) (X : List Int) (i b k : Nat) (hi : i < L.length) (hb : b < 256) (h : Lib.hasPrefix (L.drop i) (codeN c b) = false) :
    bellmanref13_From.l1 (k + 2) c s X i 0 b = bellmanref13_From.l1 k c s X i 0 ((b + 1 : Nat) : Int) := by
  have hbm : (b : Int) % 256 = b := by omega
  have hw : wrap64 ((b : Int) + 1) = ((b + 1 : Nat) : Int) := by rw [w64 (by omega) (by omega)]; rfl
  have key : ∀ q : List UInt8, q.length ≤ 6 → Lib.hasPrefix (L.drop i) q = false → ∀ Z : Option (ByteArray × Int),
      (if ((⟨q.toArray⟩ : ByteArray).size : Int) ≤ (wrap64 ((s.size : Int) - i)) then (if 0 ≤ (i : Int) then (if (i : Int) ≤ (wrap64 ((i : Int) + ((⟨q.toArray⟩ : ByteArray).size : Int))) then (if (wrap64 ((i : Int) + ((⟨q.toArray⟩ : ByteArray).size : Int))) ≤ (s.size : Int) then (if (s.extract ((i : Int)).toNat ((wrap64 ((i : Int) + ((⟨q.toArray⟩ : ByteArray).size : Int)))).toNat).toList = (⟨q.toArray⟩ : ByteArray).toList then Z else (bellmanref13_From.l1 k c s X i 0 ((b + 1 : Nat) : Int))) else none) else none) else none) else (bellmanref13_From.l1 k c s X i 0 ((b + 1 : Nat) : Int))) = bellmanref13_From.l1 k c s X i 0 ((b + 1 : Nat) : Int) := by
    intro q hq hp Z
    rw [sz_mk, size_of hs, w64 (x := (L.length : Int) - i) (by omega) (by omega), w64 (x := (i : Int) + q.length) (by omega) (by omega)]
    by_cases hl : (q.length : Int) ≤ (L.length : Int) - i
    · rw [if_pos hl, if_pos (by omega), if_pos (by omega), if_pos (by omega), if_neg]
      rw [show ((i : Int)).toNat = i by omega, show ((i : Int) + (q.length : Int)).toNat = i + q.length by omega, pre_iff hs, hp]; decide
    · rw [if_neg hl]
  simp only [bellmanref13_From.l1]
  rw [if_pos (by omega)]
  simp only [bellmanref13_From.j2]
  rw [if_pos (by decide), hbm, push_f b hb, hw]
  simp only [Option.bind_some]
  rcases hc with rfl | rfl
  · rw [if_neg (by decide)]
    exact key (pushN b) (pushN_le b).2 h _
  · rw [if_pos rfl, email_f b hb]
    simp only [Option.bind_some]
    exact key (emailN b) (emailN_le b).2 h _
theorem hit {c : Int} (hc : c = 1 ∨ c = 2) {s : ByteArray} {L : List UInt8} (hs : s.data.toList = L) (hL : L.length ≤ 1048576) (X : List Int) (hX : X.length ≤ 1048576) (i b k : Nat) (hi : i < L.length) (hb : b < 256) (h : Lib.hasPrefix (L.drop i) (codeN c b) = true) :
    bellmanref13_From.l1 (k + 2) c s X i 0 b = bellmanref13_From.l1 k c s (X ++ [(b : Int)]) i ((codeN c b).length : Int) ((b + 1 : Nat) : Int) := by
  have hbm : (b : Int) % 256 = b := by omega
  have hw : wrap64 ((b : Int) + 1) = ((b + 1 : Nat) : Int) := by rw [w64 (by omega) (by omega)]; rfl
  have key : ∀ q : List UInt8, q.length ≤ 6 → Lib.hasPrefix (L.drop i) q = true → ∀ Z : Option (ByteArray × Int),
      (if ((⟨q.toArray⟩ : ByteArray).size : Int) ≤ (wrap64 ((s.size : Int) - i)) then (if 0 ≤ (i : Int) then (if (i : Int) ≤ (wrap64 ((i : Int) + ((⟨q.toArray⟩ : ByteArray).size : Int))) then (if (wrap64 ((i : Int) + ((⟨q.toArray⟩ : ByteArray).size : Int))) ≤ (s.size : Int) then (if (s.extract ((i : Int)).toNat ((wrap64 ((i : Int) + ((⟨q.toArray⟩ : ByteArray).size : Int)))).toNat).toList = (⟨q.toArray⟩ : ByteArray).toList then (if X.length < 140737488355328 then (bellmanref13_From.l1 k c s (X ++ [(b : Int)]) i ((⟨q.toArray⟩ : ByteArray).size : Int) ((b + 1 : Nat) : Int)) else none) else Z) else none) else none) else none) else Z) = bellmanref13_From.l1 k c s (X ++ [(b : Int)]) i (q.length : Int) ((b + 1 : Nat) : Int) := by
    intro q hq hp Z
    have hpl := prefix_le hp
    simp only [List.length_drop] at hpl
    rw [sz_mk, size_of hs, w64 (x := (L.length : Int) - i) (by omega) (by omega), w64 (x := (i : Int) + q.length) (by omega) (by omega)]
    rw [if_pos (by omega), if_pos (by omega), if_pos (by omega), if_pos (by omega), if_pos, if_pos (by omega)]
    rw [show ((i : Int)).toNat = i by omega, show ((i : Int) + (q.length : Int)).toNat = i + q.length by omega, pre_iff hs, hp]
  simp only [bellmanref13_From.l1]
  rw [if_pos (by omega)]
  simp only [bellmanref13_From.j2]
  rw [if_pos (by decide), hbm, push_f b hb, hw]
  simp only [Option.bind_some]
  rcases hc with rfl | rfl
  · rw [if_neg (by decide)]
    exact key (pushN b) (pushN_le b).2 h _
  · rw [if_pos rfl, email_f b hb]
    simp only [Option.bind_some]
    exact key (emailN b) (emailN_le b).2 h _
/-- a code that a text begins with is the one that is read -/
theorem step_of_prefix {c : Int} (hc : c = 1 ∨ c = 2) {l : List UInt8} {b : Nat} (hb : b < 256) (h : Lib.hasPrefix l (codeN c b) = true) : stepF c l = (UInt8.ofNat b, (codeN c b).length) := by
  have := step_code c hc b hb (l.drop (codeN c b).length)
  rw [← prefix_split h] at this; exact this
theorem prefix_of_step {c : Int} (hc : c = 1 ∨ c = 2) {l : List UInt8} (h : (stepF c l).2 ≠ 0) : Lib.hasPrefix l (codeN c (stepF c l).1.toNat) = true := by
  have := (step_back c hc l h).1
  unfold Lib.hasPrefix
  rw [List.isPrefixOf_iff_prefix]
  exact ⟨_, this.symm⟩
theorem skips {c : Int} (hc : c = 1 ∨ c = 2) {s : ByteArray} {L : List UInt8} (hs : s.data.toList = L) (hL : L.length ≤ 1048576) (X : List Int) (i : Nat) (hi : i < L.length) : ∀ (m b k : Nat), b + m ≤ 256 → (∀ q, b ≤ q → q < b + m → Lib.hasPrefix (L.drop i) (codeN c q) = false) →
    bellmanref13_From.l1 (k + 2 * m) c s X i 0 b = bellmanref13_From.l1 k c s X i 0 ((b + m : Nat) : Int) := by
  intro m
  induction m with
  | zero => intro b k _ _; rfl
  | succ m ih =>
    intro b k hb h
    rw [show k + 2 * (m + 1) = k + 2 * m + 2 by omega, skip hc hs hL X i b (k + 2 * m) hi (by omega) (h b (Nat.le_refl _) (by omega)), ih (b + 1) k (by omega) (fun q h1 h2 => h q (by omega) (by omega)), show b + 1 + m = b + (m + 1) by omega]
theorem refFrom12 {c : Int} (hc : c = 1 ∨ c = 2) {s : ByteArray} {L : List UInt8} (hs : s.data.toList = L) (hL : L.length ≤ 1048576) : ∀ (r i : Nat) (acc : List UInt8), L.length - i ≤ r → i ≤ L.length → acc.length ≤ i →
    ∃ K, ∀ k, K ≤ k → bellmanref13_From.l0 k c s (ints acc) i = some (told acc (fromK c (r + 1) (L.drop i))) := by
  intro r
  induction r with
  | zero =>
    intro i acc hr hi ha
    refine ⟨1, fun k hk => ?_⟩
    obtain ⟨k, rfl⟩ : ∃ j, k = j + 1 := ⟨k - 1, by omega⟩
    simp only [bellmanref13_From.l0]
    rw [size_of hs, if_neg (by omega), List.drop_eq_nil_of_le (by omega), fromK_nil, nums_ints]; simp [told]
  | succ r ih =>
    intro i acc hr hi ha
    by_cases hlt : i < L.length
    · have hne : L.drop i ≠ [] := by rw [drop_cons hlt]; exact List.cons_ne_nil _ _
      have start : ∀ k, bellmanref13_From.l0 (k + 1) c s (ints acc) i = bellmanref13_From.l1 k c s (ints acc) i 0 0 := by
        intro k
        simp only [bellmanref13_From.l0]
        rw [size_of hs, if_pos (by omega), if_neg (by omega)]
      by_cases hz : (stepF c (L.drop i)).2 = 0
      · have none' : ∀ q, 0 ≤ q → q < 0 + 256 → Lib.hasPrefix (L.drop i) (codeN c q) = false := by
          intro q _ hq
          cases hp : Lib.hasPrefix (L.drop i) (codeN c q) with
          | false => rfl
          | true =>
            have := step_of_prefix hc (by omega) hp
            rw [this] at hz
            have := code_le c q
            exact absurd hz (by simp only; omega)
        refine ⟨515, fun k hk => ?_⟩
        obtain ⟨k, rfl⟩ : ∃ j, k = j + 2 + 2 * 256 + 1 := ⟨k - 515, by omega⟩
        rw [start, fromK_bad hne hz]
        have := skips hc hs hL (ints acc) i hlt 256 0 (k + 2) (by omega) none'
        rw [show (((0 : Nat)) : Int) = 0 from rfl] at this
        rw [this]
        simp only [bellmanref13_From.l1]
        rw [if_neg (by omega)]
        simp only [bellmanref13_From.j2]
        rw [if_neg (by decide), if_pos trivial]; rfl
      · have hn := stepF_le c (L.drop i)
        have hp := prefix_of_step hc hz
        have hnn := (step_back c hc _ hz).2
        rw [fromK_step hne hz, List.drop_drop, ← told_cons]
        generalize hst : stepF c (L.drop i) = st at *
        obtain ⟨x, n⟩ := st
        simp only at *
        rw [List.length_drop] at hn
        obtain ⟨K, hK⟩ := ih (i + n) (acc ++ [x]) (by omega) (by omega) (by simp; omega)
        have before : ∀ q, 0 ≤ q → q < 0 + x.toNat → Lib.hasPrefix (L.drop i) (codeN c q) = false := by
          intro q _ hq
          have := x.toNat_lt
          cases hp2 : Lib.hasPrefix (L.drop i) (codeN c q) with
          | false => rfl
          | true =>
            have h2 := step_of_prefix hc (b := q) (by omega) hp2
            rw [hst] at h2
            have h3 := congrArg (fun z => z.1.toNat) h2
            simp only at h3
            rw [ofNat_toNat (by omega)] at h3
            omega
        refine ⟨K + 520, fun k hk => ?_⟩
        have hx := x.toNat_lt
        obtain ⟨k, rfl⟩ : ∃ j, k = (j + 2) + 2 + 2 * x.toNat + 1 := ⟨k - (2 + 2 + 2 * x.toNat + 1), by omega⟩
        rw [start]
        have h1 := skips hc hs hL (ints acc) i hlt x.toNat 0 (k + 2 + 2) (by omega) before
        rw [show (((0 : Nat)) : Int) = 0 from rfl, Nat.zero_add] at h1
        rw [h1, hit hc hs hL (ints acc) (by rw [ints_len]; omega) i x.toNat (k + 2) hlt (by omega) hp, ints_snoc, ← hnn]
        have fin : ∀ y : Int, bellmanref13_From.l1 (k + 2) c s (ints (acc ++ [x])) i (n : Int) y = bellmanref13_From.l0 k c s (ints (acc ++ [x])) ((i + n : Nat) : Int) := by
          intro y
          have hj : ∀ y, bellmanref13_From.j2 (k + 1) c s (ints (acc ++ [x])) i (n : Int) y false = bellmanref13_From.l0 k c s (ints (acc ++ [x])) ((i + n : Nat) : Int) := by
            intro y
            simp only [bellmanref13_From.j2]
            rw [if_neg (by decide), if_neg (by omega), w64 (by omega) (by omega)]; rfl
          simp only [bellmanref13_From.l1]
          rw [show ((n : Int) == 0) = false by rw [beq_eq_false_iff_ne]; omega, hj, ite_self]
        rw [fin]
        exact hK k (by omega)
    · refine ⟨1, fun k hk => ?_⟩
      obtain ⟨k, rfl⟩ : ∃ j, k = j + 1 := ⟨k - 1, by omega⟩
      simp only [bellmanref13_From.l0]
      rw [size_of hs, if_neg (by omega), List.drop_eq_nil_of_le (by omega), fromK_nil, nums_ints]; simp [told]
theorem refFrom_eq (c : Int) (h0 : 0 ≤ c) (s : ByteArray) (hs : s.size ≤ 1048576) : ∃ K, ∀ k, K ≤ k → bellmanref13_From.f k c s = esc_From.f c s := by
  have e := size_of (s := s) rfl
  by_cases hv : 1 ≤ c ∧ c ≤ 3
  · have he : esc_From.f c s = some (told [] (fromK c (s.data.toList.length + 1) s.data.toList)) := by
      rw [from_ok h0 hv (by omega)]
      unfold fromR told
      cases fromK c (s.data.toList.length + 1) s.data.toList <;> simp
    have hf : ∀ k, bellmanref13_From.f k c s = bellmanref13_From.l0 k c s (ints []) 0 := by
      intro k; unfold bellmanref13_From.f; rw [is_f, decide_eq_true hv]; rfl
    by_cases h3 : c = 3
    · subst h3
      refine ⟨s.data.toList.length + 1, fun k hk => ?_⟩
      rw [he, hf]
      exact refFrom3 (s := s) rfl (by omega) s.data.toList.length k 0 [] (by omega) (by omega) (by simp)
    · obtain ⟨K, hK⟩ := refFrom12 (c := c) (by omega) (s := s) rfl (by omega) s.data.toList.length 0 [] (by omega) (by omega) (by simp)
      refine ⟨K, fun k hk => ?_⟩
      rw [he, hf]
      exact hK k hk
  · refine ⟨0, fun k _ => ?_⟩
    unfold bellmanref13_From.f
    rw [is_f, decide_eq_false hv, from_bad h0 hv]; simp
theorem EscTexts (c : Int) (s t : ByteArray) (hc : (Lit.int .u8 c).wf = true) (hs : s.size ≤ 1048576) (ht : t.size ≤ 1048576) : ∃ k, bellmanlaw13_EscTexts.f k c s t = some true := by
  have h0 := wf8 hc
  obtain ⟨K, hK⟩ := refFrom_eq c h0.1 t ht
  refine ⟨max K (3 * s.size + 1), ?_⟩
  unfold bellmanlaw13_EscTexts.f
  rw [lives_t, refTo_eq c h0.1 s hs _ (Nat.le_max_right _ _), hK _ (Nat.le_max_left _ _)]
  obtain ⟨a, ha⟩ : ∃ a, esc_To.f c s = some a := by
    by_cases hv : 1 ≤ c ∧ c ≤ 3
    · exact ⟨_, to_ok h0.1 hv (by omega)⟩
    · exact ⟨_, to_bad h0.1 hv s⟩
  obtain ⟨b, hb⟩ : ∃ b, esc_From.f c t = some b := by
    by_cases hv : 1 ≤ c ∧ c ≤ 3
    · exact ⟨_, from_ok h0.1 hv (by omega)⟩
    · exact ⟨_, from_bad h0.1 hv t⟩
  rw [ha, hb]
  simp
end Go.Proofs.YtcbdihhnoicabaaDoor.EscPureE
