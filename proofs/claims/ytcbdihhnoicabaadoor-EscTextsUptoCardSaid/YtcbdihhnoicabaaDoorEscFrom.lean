/- What esc.From reads: the byte whose code a text begins with, by channel; then whole texts. -/
import Derived.Test.YtcbdihhnoicabaaDoorEsc
import Derived.Deep.QuietTactic
import Derived.BigQuiet
import Derived.Lib.SlBytesConst
namespace Go.Proofs.YtcbdihhnoicabaaDoor.Esc
open Go.RowKit Go.Proofs.YtcbdihhnoicabaaDoor.Bld Go.Proofs.YtcbdihhnoicabaaDoorW.PrintWords
def digI (c : UInt8) : Int := Lib.indexByte hexL c
theorem digI_le (c : UInt8) : -1 ≤ digI c ∧ digI c < 16 := by
  have : ∀ i : Fin 256, -1 ≤ digI (UInt8.ofNat i.val) ∧ digI (UInt8.ofNat i.val) < 16 := by decide +kernel
  have h := this ⟨c.toNat, c.toNat_lt⟩
  simpa using h
theorem size_of {s : ByteArray} {l : List UInt8} (hs : s.data.toList = l) : s.size = l.length := by
  have := congrArg List.length hs; rw [Array.length_toList] at this; exact this
theorem at_of {s : ByteArray} {l : List UInt8} (hs : s.data.toList = l) (i : Nat) (hi : i < s.size) : some s[i] = l[i]? := by
  rw [← hs, List.getElem?_eq_getElem (by simpa using hi)]; rfl
theorem digit_any (c : UInt8) (w : World) : Calls Tryd.prog 72 #[.int .u8 c.toNat] w fun e w' => e = .returned (.int .i64 (digI c)) ∧ w = w' := by
  go_enter Tryd.func72, Tryd.ntmps72
  go_wp2_with fail
  refine (Tryd.strings_IndexByte _ _ _).mono ?_
  rintro e w1 ⟨rfl, rfl⟩
  go_wp2
  go_ret
  exact ⟨by simp [digI, hexL], rfl⟩
/-- a short text's byte -/
def shortF (l : List UInt8) : UInt8 × Nat := match l with
  | [] => (0, 0)
  | c :: _ => if c.toNat < 32 ∨ 126 < c.toNat then (0, 0) else (c, 1)
theorem short_any (s : ByteArray) (c : UInt8) (t : List UInt8) (hs : s.data.toList = c :: t) (w : World) :
    Calls Tryd.prog 57 #[.string s] w fun e w' => e = .returned (.tuple #[.int .u8 (shortF s.data.toList).1.toNat, .int .i64 (shortF s.data.toList).2]) ∧ w = w' := by
  have hz : 0 < s.size := by rw [size_of hs]; simp
  have h0 : s[0] = c := by have := at_of hs 0 hz; simpa using this
  rw [hs]
  have H0 := Lib.hid h0
  clear hs h0
  rw [show shortF (c :: t) = if c.toNat < 32 ∨ 126 < c.toNat then (0, 0) else (c, 1) from rfl]
  by_cases c1 : c.toNat < 32 ∨ 126 < c.toNat
  · rw [if_pos c1]
    rw [← H0.out] at c1
    rcases c1 with c1 | c1
    all_goals
      go_enter Tryd.func57, Tryd.ntmps57
      go_wp2
      go_ret2
      exact ⟨rfl, rfl⟩
  · rw [if_neg c1]
    rw [← H0.out] at c1
    have c2 : 32 ≤ s[0].toNat := by omega
    have c3 : s[0].toNat ≤ 126 := by omega
    clear c1
    go_enter Tryd.func57, Tryd.ntmps57
    go_wp2
    go_ret2
    exact ⟨by rw [H0.out]; rfl, rfl⟩
/-- a mail's byte -/
def ents : List Nat := [38, 60, 62, 34, 39]
def mailedF (l : List UInt8) : UInt8 × Nat := match l with
  | [] => (0, 0)
  | c :: _ => if entN c.toNat = [] then (c, 1) else match ents.find? fun n => Lib.hasPrefix l (entN n) with
    | some n => (UInt8.ofNat n, (entN n).length)
    | none => (0, 0)
def mailLoop (l : List UInt8) (k : Nat) : UInt8 × Nat := match (ents.drop k).find? fun n => Lib.hasPrefix l (entN n) with
    | some n => (UInt8.ofNat n, (entN n).length)
    | none => (0, 0)
theorem mailLoop_step (l : List UInt8) (k : Nat) (hk : k < 5) : mailLoop l k = if Lib.hasPrefix l (entN (ents.getD k 0)) = true then (UInt8.ofNat (ents.getD k 0), (entN (ents.getD k 0)).length) else mailLoop l (k + 1) := by
  match k, hk with
  | 0, _ => unfold mailLoop; simp only [ents, List.drop, List.find?_cons, List.getD_cons_zero]; cases Lib.hasPrefix l (entN 38) <;> rfl
  | 1, _ => unfold mailLoop; simp only [ents, List.drop, List.find?_cons, List.getD_cons_zero, List.getD_cons_succ]; cases Lib.hasPrefix l (entN 60) <;> rfl
  | 2, _ => unfold mailLoop; simp only [ents, List.drop, List.find?_cons, List.getD_cons_zero, List.getD_cons_succ]; cases Lib.hasPrefix l (entN 62) <;> rfl
  | 3, _ => unfold mailLoop; simp only [ents, List.drop, List.find?_cons, List.getD_cons_zero, List.getD_cons_succ]; cases Lib.hasPrefix l (entN 34) <;> rfl
  | 4, _ => unfold mailLoop; simp only [ents, List.drop, List.find?_cons, List.getD_cons_zero, List.getD_cons_succ]; cases Lib.hasPrefix l (entN 39) <;> rfl
theorem hp_any (s : ByteArray) (n : Nat) (p : Bool) (W : World) (h : Lib.hasPrefix s.data.toList (entN n) = p) : Calls Tryd.prog 71 #[.string s, .string ⟨(entN n).toArray⟩] W fun e w' => e = .returned (.bool p) ∧ W = w' := by
  refine (Tryd.strings_HasPrefix s ⟨(entN n).toArray⟩ W).mono ?_
  rintro e w' ⟨rfl, rfl⟩
  exact ⟨by rw [show (⟨(entN n).toArray⟩ : ByteArray).data.toList = entN n by simp, h], rfl⟩
set_option maxHeartbeats 2000000 in
set_option maxRecDepth 100000 in
theorem mailed_any (s : ByteArray) (c : UInt8) (t : List UInt8) (hs : s.data.toList = c :: t) (w : World) :
    Calls Tryd.prog 56 #[.string s] w fun e w' => e = .returned (.tuple #[.int .u8 (mailedF s.data.toList).1.toNat, .int .i64 (mailedF s.data.toList).2]) ∧ Below w.heap.size w w' := by
  have hz : 0 < s.size := by rw [size_of hs]; simp
  have h0 : s[0] = c := by have := at_of hs 0 hz; simpa using this
  by_cases c1 : entN c.toNat = []
  · rw [show mailedF s.data.toList = (c, 1) by rw [hs]; show (if _ then _ else _) = _; rw [if_pos c1]]
    have H0 := Lib.hid h0
    have H1 := Lib.hid c1
    clear hs h0 c1
    go_enter Tryd.func56, Tryd.ntmps56
    go_wp2_with fail
    refine (entity_any _ _).mono ?_
    rw [H0.out, H1.out]
    rintro e w1 ⟨rfl, rfl⟩
    go_wp2
    go_ret2
    exact ⟨by rw [H0.out]; rfl, Below.refl _ _⟩
  · have e0 : mailedF s.data.toList = mailLoop s.data.toList 0 := by
      rw [hs]; show (if _ then _ else _) = _; rw [if_neg c1]; rfl
    rw [e0]
    obtain ⟨a, l, he⟩ : ∃ a l, entN c.toNat = a :: l := by cases h : entN c.toNat with
      | nil => exact absurd h c1
      | cons a l => exact ⟨a, l, rfl⟩
    have H0 := Lib.hid h0
    have H1 := Lib.hid he
    clear hs h0 c1 he e0
    have kc := fun (w : World) (C : Array Value) (n c : Nat) => Lib.run_convert_bytes_const (P := Tryd.prog) w 65 5 C n c Tryd.underlying65 Tryd.underlying5
    go_enter Tryd.func56, Tryd.ntmps56
    go_wp2_with fail
    refine (entity_any _ _).mono ?_
    rw [H0.out, H1.out]
    rintro e w1 ⟨rfl, rfl⟩
    go_wp2_with fail
    have hbk : (w.alloc (.cells #[.int .u8 38, .int .u8 60, .int .u8 62, .int .u8 34, .int .u8 39] 5 (5, 6))).heap[w.heap.size]? = some (.cells #[.int .u8 38, .int .u8 60, .int .u8 62, .int .u8 34, .int .u8 39] 5 (5, 6)) := blk_new _ _
    have HB := Lib.hid (Below.alloc (Below.refl w.heap.size w) (Nat.le_refl _) (.cells #[.int .u8 38, .int .u8 60, .int .u8 62, .int .u8 34, .int .u8 39] 5 (5, 6)))
    generalize w.alloc (.cells #[.int .u8 38, .int .u8 60, .int .u8 62, .int .u8 34, .int .u8 39] 5 (5, 6)) = W at *
    have k0 : W.cell? ⟨w.heap.size, 0, none⟩ = some (.int .u8 38) := by rw [Lib.cell_of_heap hbk]; rfl
    have k1 : W.cell? ⟨w.heap.size, 1, none⟩ = some (.int .u8 60) := by rw [Lib.cell_of_heap hbk]; rfl
    have k2 : W.cell? ⟨w.heap.size, 2, none⟩ = some (.int .u8 62) := by rw [Lib.cell_of_heap hbk]; rfl
    have k3 : W.cell? ⟨w.heap.size, 3, none⟩ = some (.int .u8 34) := by rw [Lib.cell_of_heap hbk]; rfl
    have k4 : W.cell? ⟨w.heap.size, 4, none⟩ = some (.int .u8 39) := by rw [Lib.cell_of_heap hbk]; rfl
    clear hbk kc
    go_loop [16] (fun i => ∃ k : Nat, k ≤ 5 ∧ i = .int .i64 k ∧ Aside0 (mailLoop s.data.toList k = mailLoop s.data.toList 0)) (fun i => 5 - (intOf i).toNat)
    case atStart => exact ⟨0, by omega, rfl, ⟨rfl⟩⟩
    case round =>
      obtain ⟨k, hk, rfl, HM⟩ := hrel
      by_cases hlt : k < 5
      · have hst := mailLoop_step s.data.toList k hlt
        have h5 : k = 0 ∨ k = 1 ∨ k = 2 ∨ k = 3 ∨ k = 4 := by omega
        rcases h5 with rfl | rfl | rfl | rfl | rfl
        · change _ = if Lib.hasPrefix s.data.toList (entN 38) = true then (UInt8.ofNat 38, (entN 38).length) else _ at hst
          cases hp : Lib.hasPrefix s.data.toList (entN 38) with
          | true =>
            rw [hp, if_pos rfl] at hst
            have HS := Lib.hid hst
            have HP := Lib.hid hp
            clear hst hp
            go_wp2_with fail
            refine (entity_any 38 _).mono ?_
            rintro e w1 ⟨rfl, rfl⟩
            go_wp2_with fail
            refine (hp_any s 38 true _ HP.out).mono ?_
            rintro e w1 ⟨rfl, rfl⟩
            go_wp2
            go_ret2
            exact ⟨by (try rw [← HM.out]); rw [HS.out]; rfl, HB.out⟩
          | false =>
            rw [hp, if_neg (by decide)] at hst
            have HS := Lib.hid hst
            have HP := Lib.hid hp
            clear hst hp
            go_wp2_with fail
            refine (entity_any 38 _).mono ?_
            rintro e w1 ⟨rfl, rfl⟩
            go_wp2_with fail
            refine (hp_any s 38 false _ HP.out).mono ?_
            rintro e w1 ⟨rfl, rfl⟩
            go_wp2
            go_round
            case rel => exact ⟨1, by omega, by go_num, ⟨by rw [← HS.out]; first | done | exact HM.out⟩⟩
            case measure => simp [intOf]
        · change _ = if Lib.hasPrefix s.data.toList (entN 60) = true then (UInt8.ofNat 60, (entN 60).length) else _ at hst
          cases hp : Lib.hasPrefix s.data.toList (entN 60) with
          | true =>
            rw [hp, if_pos rfl] at hst
            have HS := Lib.hid hst
            have HP := Lib.hid hp
            clear hst hp
            go_wp2_with fail
            refine (entity_any 60 _).mono ?_
            rintro e w1 ⟨rfl, rfl⟩
            go_wp2_with fail
            refine (hp_any s 60 true _ HP.out).mono ?_
            rintro e w1 ⟨rfl, rfl⟩
            go_wp2
            go_ret2
            exact ⟨by (try rw [← HM.out]); rw [HS.out]; rfl, HB.out⟩
          | false =>
            rw [hp, if_neg (by decide)] at hst
            have HS := Lib.hid hst
            have HP := Lib.hid hp
            clear hst hp
            go_wp2_with fail
            refine (entity_any 60 _).mono ?_
            rintro e w1 ⟨rfl, rfl⟩
            go_wp2_with fail
            refine (hp_any s 60 false _ HP.out).mono ?_
            rintro e w1 ⟨rfl, rfl⟩
            go_wp2
            go_round
            case rel => exact ⟨2, by omega, by go_num, ⟨by rw [← HS.out]; first | done | exact HM.out⟩⟩
            case measure => simp [intOf]
        · change _ = if Lib.hasPrefix s.data.toList (entN 62) = true then (UInt8.ofNat 62, (entN 62).length) else _ at hst
          cases hp : Lib.hasPrefix s.data.toList (entN 62) with
          | true =>
            rw [hp, if_pos rfl] at hst
            have HS := Lib.hid hst
            have HP := Lib.hid hp
            clear hst hp
            go_wp2_with fail
            refine (entity_any 62 _).mono ?_
            rintro e w1 ⟨rfl, rfl⟩
            go_wp2_with fail
            refine (hp_any s 62 true _ HP.out).mono ?_
            rintro e w1 ⟨rfl, rfl⟩
            go_wp2
            go_ret2
            exact ⟨by (try rw [← HM.out]); rw [HS.out]; rfl, HB.out⟩
          | false =>
            rw [hp, if_neg (by decide)] at hst
            have HS := Lib.hid hst
            have HP := Lib.hid hp
            clear hst hp
            go_wp2_with fail
            refine (entity_any 62 _).mono ?_
            rintro e w1 ⟨rfl, rfl⟩
            go_wp2_with fail
            refine (hp_any s 62 false _ HP.out).mono ?_
            rintro e w1 ⟨rfl, rfl⟩
            go_wp2
            go_round
            case rel => exact ⟨3, by omega, by go_num, ⟨by rw [← HS.out]; first | done | exact HM.out⟩⟩
            case measure => simp [intOf]
        · change _ = if Lib.hasPrefix s.data.toList (entN 34) = true then (UInt8.ofNat 34, (entN 34).length) else _ at hst
          cases hp : Lib.hasPrefix s.data.toList (entN 34) with
          | true =>
            rw [hp, if_pos rfl] at hst
            have HS := Lib.hid hst
            have HP := Lib.hid hp
            clear hst hp
            go_wp2_with fail
            refine (entity_any 34 _).mono ?_
            rintro e w1 ⟨rfl, rfl⟩
            go_wp2_with fail
            refine (hp_any s 34 true _ HP.out).mono ?_
            rintro e w1 ⟨rfl, rfl⟩
            go_wp2
            go_ret2
            exact ⟨by (try rw [← HM.out]); rw [HS.out]; rfl, HB.out⟩
          | false =>
            rw [hp, if_neg (by decide)] at hst
            have HS := Lib.hid hst
            have HP := Lib.hid hp
            clear hst hp
            go_wp2_with fail
            refine (entity_any 34 _).mono ?_
            rintro e w1 ⟨rfl, rfl⟩
            go_wp2_with fail
            refine (hp_any s 34 false _ HP.out).mono ?_
            rintro e w1 ⟨rfl, rfl⟩
            go_wp2
            go_round
            case rel => exact ⟨4, by omega, by go_num, ⟨by rw [← HS.out]; first | done | exact HM.out⟩⟩
            case measure => simp [intOf]
        · change _ = if Lib.hasPrefix s.data.toList (entN 39) = true then (UInt8.ofNat 39, (entN 39).length) else _ at hst
          cases hp : Lib.hasPrefix s.data.toList (entN 39) with
          | true =>
            rw [hp, if_pos rfl] at hst
            have HS := Lib.hid hst
            have HP := Lib.hid hp
            clear hst hp
            go_wp2_with fail
            refine (entity_any 39 _).mono ?_
            rintro e w1 ⟨rfl, rfl⟩
            go_wp2_with fail
            refine (hp_any s 39 true _ HP.out).mono ?_
            rintro e w1 ⟨rfl, rfl⟩
            go_wp2
            go_ret2
            exact ⟨by (try rw [← HM.out]); rw [HS.out]; rfl, HB.out⟩
          | false =>
            rw [hp, if_neg (by decide)] at hst
            have HS := Lib.hid hst
            have HP := Lib.hid hp
            clear hst hp
            go_wp2_with fail
            refine (entity_any 39 _).mono ?_
            rintro e w1 ⟨rfl, rfl⟩
            go_wp2_with fail
            refine (hp_any s 39 false _ HP.out).mono ?_
            rintro e w1 ⟨rfl, rfl⟩
            go_wp2
            go_round
            case rel => exact ⟨5, by omega, by go_num, ⟨by rw [← HS.out]; first | done | exact HM.out⟩⟩
            case measure => simp [intOf]
      · obtain rfl : k = 5 := by omega
        have HS := Lib.hid (show mailLoop s.data.toList 5 = (0, 0) from rfl)
        go_wp2
        go_ret2
        exact ⟨by rw [← HM.out, HS.out]; rfl, HB.out⟩
end Go.Proofs.YtcbdihhnoicabaaDoor.Esc
