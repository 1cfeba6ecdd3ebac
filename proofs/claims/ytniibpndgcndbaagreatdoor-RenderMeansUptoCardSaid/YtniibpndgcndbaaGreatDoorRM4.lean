/- Part 4 of the proof (texts of this claim, merged in build order; what the claim does not need has been left out). -/
import Derived.Test.YtniibpndgcndbaaGreatDoorRM3
import Derived.Deep.QuietTactic
import Derived.Deep.RegionHeld3
import Derived.KernelRfl
import Derived.LaidEql
import Derived.Lib.Hide
import Derived.Lib.IfaceEq
import Derived.Lib.ItoaLen
import Derived.RowKitTokens
import Derived.Stop.Asserts
import Derived.WalkKit
set_option linter.unusedVariables false
set_option linter.unusedSimpArgs false
namespace Go.Proofs.YtniibpndgcndbaaGreatDoor.Tpl
set_option linter.unusedSimpArgs false
open Go.RowKit Go.Proofs Go.Proofs.YtniibpndgcndbaaGreatDoor.PB Go.Proofs.YtniibpndgcndbaaGreatDoor.Short Go.Proofs.YtniibpndgcndbaaGreatDoorW.PrintWords Go.Proofs.YtniibpndgcndbaaGreatDoorW.PrintLast Go.Proofs.YtniibpndgcndbaaGreatDoorW.PrintMore Vals
theorem named09_ev (s : S) (hs : s.length ≤ 1048576) : Ev (fun k => bellmanref09_Named.f k (bs s)) (nameP s) := by
  obtain ⟨k, hk⟩ := named_f s hs
  exact Ev.of (bellmanref09_Named.mono _) hk
theorem leaf09_l (m : List S) (hl : m.length ≤ 1048576) (hs : ∀ s, s ∈ m → s.length ≤ 1048576) (bt bn : Bool) (a0 : Int) (a1 : ByteArray) (a2 : Int) (l3 : List SV) : ∀ d i, m.length - i = d → i ≤ m.length →
    Ev (fun k => bellmanref09_leaf.l0 k bt bn (m.map bs) (m.length : Int) (i : Int) a0 a1 a2 l3 (m.map bs)) (Vals.risingQ (if i = 0 then none else some (m.getD (i - 1) [])) (m.drop i) && (bt && bn && ((m.length : Int) == (l3.length : Int)))) := by
  intro d
  induction d with
  | zero =>
    intro i h1 h2
    refine Ev.step (fun k => by rw [bellmanref09_leaf.l0, List.length_map]) ?_
    refine Ev.im (by omega) ?_
    rw [List.drop_eq_nil_of_le (by omega)]
    cases bt with
    | false => exact Ev.im (by simp) (Ev.val (by simp [Vals.risingQ]))
    | true =>
      refine Ev.ip rfl ?_
      cases bn with
      | false => exact Ev.im (by simp) (Ev.val (by simp [Vals.risingQ]))
      | true => exact Ev.ip rfl (Ev.val (by simp [Vals.risingQ]))
  | succ d ih =>
    intro i h1 h2
    have hi : i < m.length := by omega
    have hw := w64 i (by omega)
    have e := ih (i + 1) (by omega) (by omega)
    have hd : m.drop i = m.getD i [] :: m.drop (i + 1) := by rw [List.drop_eq_getElem_cons hi]; simp [List.getD, hi]
    have hm : m.getD i [] ∈ m := by have : m.getD i [] = m[i] := by simp [List.getD, hi]
                                    rw [this]; exact List.getElem_mem hi
    rw [if_neg (Nat.succ_ne_zero i), Nat.add_sub_cancel] at e
    rw [hd]
    generalize (bt && bn && ((m.length : Int) == (l3.length : Int))) = bz at e ⊢
    refine Ev.step (fun k => by rw [bellmanref09_leaf.l0, rd_bs hi, hw]) ?_
    refine Ev.ip (by omega) (Ev.ip (by omega) (Ev.ip (by rw [List.length_map]; omega) ?_))
    refine Ev.bind (named09_ev _ (hs _ hm)) ?_
    unfold Vals.risingQ
    cases hn : nameP (m.getD i []) with
    | false => exact Ev.im (by simp) (Ev.val (by simp))
    | true =>
      refine Ev.ip (by simp) ?_
      cases i with
      | zero =>
        refine Ev.im (by omega) ?_
        exact Ev.eq e (by simp)
      | succ j =>
        have hj : j < m.length := by omega
        have hw2 : wrap64 (((j + 1 : Nat) : Int) - 1) = (j : Int) := by unfold wrap64; omega
        refine Ev.ip (by omega) ?_
        rw [hw2]
        refine Ev.ip (by omega) (Ev.ip (by rw [List.length_map]; omega) ?_)
        rw [rd_bs hj, bytesLess_eq, bs_list, bs_list]
        rw [if_neg (Nat.succ_ne_zero j), Nat.add_sub_cancel]
        by_cases hlt : m.getD j [] < m.getD (j + 1) []
        · refine Ev.ip (by simp only [decide_eq_true_eq]; exact hlt) ?_
          exact Ev.eq e (by show _ = (true && decide (m.getD j [] < m.getD (j + 1) []) && _ && _); rw [decide_eq_true hlt]; rfl)
        · refine Ev.im (by simp only [decide_eq_true_eq]; exact hlt) ?_
          exact Ev.val (by show false = (true && decide (m.getD j [] < m.getD (j + 1) []) && _ && _); rw [decide_eq_false hlt]; rfl)
theorem lenb0 (a : Nat) : ((a : Int) == 0) = (a == 0) := by rw [Bool.eq_iff_iff, beq_iff_eq, beq_iff_eq]; omega
theorem lenb (a b : Nat) : ((a : Int) == (b : Int)) = (a == b) := by rw [Bool.eq_iff_iff, beq_iff_eq, beq_iff_eq]; omega
theorem leaf09_ev (k : Nat) (t : S) (n : Int) (i : Vals) (m : List S) (hl : m.length ≤ 1048576) (hs : ∀ s, s ∈ m → s.length ≤ 1048576) :
    Ev (fun q => bellmanref09_leaf.f q k (bs t) n i.of (m.map bs)) (Vals.leafV k t n i.len m) := by
  have qt : (bs t).toList = [] ↔ t.isEmpty = true := by rw [bs_list]; cases t <;> simp
  have qb : ((bs t).toList == ([] : List UInt8)) = t.isEmpty := by rw [bs_list]; cases t <;> rfl
  unfold bellmanref09_leaf.f Vals.leafV
  simp only [Vals.of_len, List.length_map, bs_size, qt, qb, lenb0]
  by_cases k1 : k = 1
  · subst k1
    refine Ev.ip (by rfl) ?_
    rw [if_pos rfl]
    by_cases c1 : t.length ≤ 4096
    · refine Ev.ip (by omega) ?_
      by_cases c2 : n = 0
      · refine Ev.ip c2 ?_
        by_cases c3 : i.len = 0
        · exact Ev.ip (by omega) (Ev.val (by simp [c1, c2, c3]))
        · exact Ev.im (by omega) (Ev.val (by simp [c3]))
      · exact Ev.im c2 (Ev.val (by simp [c2]))
    · exact Ev.im (by omega) (Ev.val (by simp [c1]))
  refine Ev.im (by omega) ?_
  rw [if_neg k1]
  by_cases k2 : k = 2
  · subst k2
    refine Ev.ip (by rfl) ?_
    rw [if_neg (show ¬ (2 : Nat) = 3 by decide), if_pos (show (2 : Nat) = 2 from rfl)]
    by_cases c1 : t.isEmpty = true
    · refine Ev.ip c1 ?_
      by_cases c3 : i.len = 0
      · exact Ev.ip (by omega) (Ev.val (by simp [c1, c3]))
      · exact Ev.im (by omega) (Ev.val (by simp [c3]))
    · exact Ev.im c1 (Ev.val (by simp [c1]))
  refine Ev.im (by omega) ?_
  by_cases k3 : k = 3
  · subst k3
    refine Ev.ip (by rfl) ?_
    rw [if_pos rfl]
    by_cases c1 : t.isEmpty = true
    · refine Ev.ip c1 ?_
      by_cases c3 : i.len = 0
      · refine Ev.ip (by omega) ?_
        by_cases c4 : m.length = 0
        · refine Ev.ip (by omega) ?_
          by_cases c5 : n = 0
          · exact Ev.ip c5 (Ev.val (by simp [c1, c3, c4, c5]))
          · exact Ev.im c5 (Ev.val (by simp [c1, c3, c4, c5]))
        · exact Ev.im (by omega) (Ev.val (by simp [c4]))
      · exact Ev.im (by omega) (Ev.val (by simp [c3]))
    · exact Ev.im c1 (Ev.val (by simp [c1]))
  refine Ev.im (by omega) ?_
  rw [if_neg k3, if_neg k2]
  by_cases k4 : k = 4
  · subst k4
    refine Ev.ip (by rfl) ?_
    rw [if_neg (show ¬ (4 : Nat) = 5 by decide), if_pos (show (4 : Nat) = 4 from rfl)]
    by_cases c1 : t.isEmpty = true
    · refine Ev.ip c1 ?_
      by_cases c2 : n = 0
      · exact Ev.ip c2 (Ev.val (by simp [c1, c2]))
      · exact Ev.im c2 (Ev.val (by simp [c2]))
    · exact Ev.im c1 (Ev.val (by simp [c1]))
  refine Ev.im (by omega) ?_
  by_cases k5 : k = 5
  · subst k5
    refine Ev.ip (by rfl) ?_
    rw [if_pos rfl]
    have h := leaf09_l m hl hs t.isEmpty (n == 0) ((5 : Nat) : Int) (bs t) n i.of m.length 0 (by omega) (Nat.zero_le _)
    refine Ev.eq h ?_
    rw [Vals.of_len, lenb]
    simp only [if_true, List.drop_zero, Vals.risingP]
    rw [Bool.and_comm]
  refine Ev.im (by omega) (Ev.val ?_)
  rw [if_neg k5, if_neg k4]
def rtV (c : Nat) (ok : Bool) : Int × Bool := if ok = true ∧ c ≤ 256 then ((c : Int), true) else (0, false)
theorem okV_cons' (k : Nat) (t : S) (n : Int) (i : Vals) (m : List S) (r : Vals) (lv : Nat) : okV (cons k t n i m r) lv = (okV (Val.one ⟨k, t, n, i, m⟩) lv && okV r lv) := by
  show _ = (okV (cons k t n i m .nil) lv && okV r lv)
  simp only [okV, Bool.and_true]
theorem dropV_cases (l : Vals) (i : Nat) (h : i < l.len) : ∃ k t n a m, l.drop i = cons k t n a m (l.drop (i + 1)) := by
  cases hd : l.drop i with
  | nil => have := drop_nil hd; omega
  | cons k t n a m r => obtain ⟨_, h2, _⟩ := drop_step hd; exact ⟨k, t, n, a, m, by rw [h2]⟩
theorem dropV_all (l : Vals) : l.drop l.len = .nil := by
  cases h : l.drop l.len with
  | nil => rfl
  | cons => have := (drop_step h).1; omega
theorem smV_of {k : Nat} {t : S} {n : Int} {i : Vals} {m : List S} {r : Vals} (h : (cons k t n i m r).sm) : (⟨k, t, n, i, m⟩ : Val).sm := ⟨h.1, h.2.1, h.2.2.1, h.2.2.2.1, h.2.2.2.2.1, h.2.2.2.2.2.1, h.2.2.2.2.2.2.1, trivial⟩
theorem lenV_cnt (l : Vals) : l.len ≤ l.cnt := by
  induction l with
  | nil => exact Nat.le_refl _
  | cons k t n i m r _ ih => simp only [Vals.len, Vals.cnt]; omega
theorem w_x (x a : Nat) (h1 : x ≤ 256) (h2 : a ≤ 256) : wrap64 ((x : Int) + (a : Int)) = ((x + a : Nat) : Int) := by unfold wrap64; omega
theorem gt_no {x : Nat} (h : x ≤ 256) : ¬ ((x : Int) > 256) := by omega
theorem gt_yes {x : Nat} (h : ¬ x ≤ 256) : (x : Int) > 256 := by omega
set_option maxHeartbeats 1000000 in
theorem right09_ev (M : Nat) : ∀ (v : Val), v.i.cnt < M → v.i.cnt ≤ 1048576 → v.sm → ∀ lv : Nat, lv ≤ 1000 →
    Ev (fun k => bellmanref09_right.f k (v.k : Int) (bs v.t) v.n v.i.of (v.m.map bs) (lv : Int)) (rtV (1 + v.i.cnt) (okV v.one lv)) := by
  induction M with
  | zero => intro v h; exact absurd h (Nat.not_lt_zero _)
  | succ M ih =>
    intro v hM hc hs lv hlv
    obtain ⟨s1, s2, s3, s4, s5, s6, s7, _⟩ := hs
    refine Ev.step (fun k => by rw [bellmanref09_right.f]) ?_
    by_cases h0 : lv = 0
    · subst h0
      refine Ev.ip (by rfl) (Ev.step (fun k => by rw [bellmanref09_right.j0]) (Ev.ip rfl (Ev.val ?_)))
      unfold rtV Val.one
      simp [okV]
    refine Ev.im (by omega) (Ev.bind (leaf09_ev v.k v.t v.n v.i v.m s5 s6) ?_)
    have hone : okV v.one lv = (leafV v.k v.t v.n v.i.len v.m && okV v.i (lv - 1)) := by
      have h0' : (lv != 0) = true := by simpa using h0
      unfold Val.one
      simp only [okV, h0', Bool.true_and, Bool.and_true]
    rw [hone]
    refine Ev.step (fun k => by rw [bellmanref09_right.j0]) ?_
    cases hlf : leafV v.k v.t v.n v.i.len v.m with
    | false => exact Ev.ip rfl (Ev.val (by simp [rtV]))
    | true =>
      refine Ev.im (by simp) ?_
      have loop : ∀ d j (x : Nat), v.i.len - j = d → j ≤ v.i.len → x ≤ 256 →
          Ev (fun k => bellmanref09_right.l0 k (lv : Int) (x : Int) v.i.of (v.i.len : Int) (j : Int)) (rtV (x + (v.i.drop j).cnt) (okV (v.i.drop j) (lv - 1))) := by
        intro d
        induction d with
        | zero =>
          intro j x h1 h2 hx
          obtain rfl : j = v.i.len := by omega
          refine Ev.step (fun k => by rw [bellmanref09_right.l0]) (Ev.im (by omega) (Ev.val ?_))
          rw [dropV_all]
          simp [rtV, okV, cnt, hx]
        | succ d ihd =>
          intro j x h1 h2 hx
          have g0 : j < v.i.len := by omega
          have g1 : (j : Int) < (v.i.len : Int) := Int.ofNat_lt.2 g0
          have g2 : (j : Int) < (v.i.of.length : Int) := by rw [of_len]; exact g1
          have g4 : v.i.len - (j + 1) = d := by omega
          obtain ⟨k', t', n', i', m', hd⟩ := dropV_cases v.i j g0
          obtain ⟨_, _, h3⟩ := drop_step hd
          have hcd := cnt_drop v.i j
          have hsd := sm_drop s7 j
          rw [hd] at hcd hsd
          simp only [cnt] at hcd
          have hl := lenV_cnt v.i
          have hw := w64 j (by omega)
          have hv := w_sub1 lv hlv h0
          have e1 : Ev (fun k => bellmanref09_right.f k (k' : Int) (bs t') n' i'.of (m'.map bs) ((lv - 1 : Nat) : Int)) (rtV (1 + i'.cnt) (okV (Val.one ⟨k', t', n', i', m'⟩) (lv - 1))) := ih ⟨k', t', n', i', m'⟩ (by simp only; omega) (by simp only; omega) (smV_of hsd) (lv - 1) (by omega)
          rw [hd, okV_cons']
          refine Ev.step (fun k => by rw [bellmanref09_right.l0, h3, hw, hv]) ?_
          dsimp only
          refine Ev.ip g1 (Ev.ip (Int.natCast_nonneg j) (Ev.ip g2 (Ev.bind e1 ?_)))
          by_cases hch : okV (Val.one ⟨k', t', n', i', m'⟩) (lv - 1) = true ∧ 1 + i'.cnt ≤ 256
          · have er : rtV (1 + i'.cnt) (okV (Val.one ⟨k', t', n', i', m'⟩) (lv - 1)) = (((1 + i'.cnt : Nat) : Int), true) := if_pos hch
            simp only [er]
            refine Ev.ip trivial ?_
            rw [w_x x (1 + i'.cnt) hx hch.2]
            by_cases hbig : x + (1 + i'.cnt) ≤ 256
            · refine Ev.im (gt_no hbig) (Ev.eq (ihd (j + 1) (x + (1 + i'.cnt)) g4 g0 hbig) ?_)
              rw [hch.1, Bool.true_and]
              simp only [cnt]
              rw [Nat.add_assoc]
            · refine Ev.ip (gt_yes hbig) (Ev.val ?_)
              unfold rtV
              rw [if_neg]
              simp only [cnt]
              rintro ⟨_, h⟩
              exact hbig (Nat.le_trans (Nat.add_le_add_left (Nat.le_add_right _ _) x) h)
          · have er : rtV (1 + i'.cnt) (okV (Val.one ⟨k', t', n', i', m'⟩) (lv - 1)) = (0, false) := if_neg hch
            simp only [er]
            refine Ev.im (by simp) (Ev.val ?_)
            unfold rtV
            rw [if_neg]
            simp only [cnt, Bool.and_eq_true]
            rintro ⟨⟨h, _⟩, h'⟩
            exact hch ⟨h, Nat.le_trans (Nat.le_add_right _ _) (Nat.le_trans (Nat.le_add_left _ _) h')⟩
      have h := loop v.i.len 0 1 (by omega) (Nat.zero_le _) (by decide)
      rw [Vals.drop_zero] at h
      rw [Vals.of_len]
      exact Ev.eq h (by rw [Bool.true_and])
theorem check09_ev (v : Val) (hc : v.i.cnt ≤ 1048576) (hs : v.sm) : Ev (fun k => bellmanref09_Check.f k (v.k : Int) (bs v.t) v.n v.i.of (v.m.map bs)) (if v.ok = true then 0 else 2) := by
  unfold bellmanref09_Check.f
  refine Ev.bind (right09_ev _ v (Nat.lt_succ_self _) hc hs 8 (by decide)) ?_
  have hok : v.ok = (okV v.one 8 && decide (1 + v.i.cnt ≤ 256)) := by
    show fitsV v.one = _
    unfold fitsV
    congr 2
  unfold rtV
  by_cases h : okV v.one 8 = true ∧ 1 + v.i.cnt ≤ 256
  · rw [if_pos h]
    refine Ev.ip rfl (Ev.val ?_)
    rw [hok, h.1, decide_eq_true h.2]; rfl
  · rw [if_neg h]
    refine Ev.im (by simp) (Ev.val ?_)
    have : v.ok = false := by
      rw [hok]
      cases h1 : okV v.one 8 with
      | false => rfl
      | true => rw [decide_eq_false (fun h2 => h ⟨h1, h2⟩)]; rfl
    rw [this]; rfl
set_option maxHeartbeats 1000000 in
theorem copy09_ev (M : Nat) : ∀ (v : Val), v.i.cnt < M → v.i.cnt ≤ 1048576 → v.sm →
    Ev (fun k => bellmanref09_Copy.f k (v.k : Int) (bs v.t) v.n v.i.of (v.m.map bs)) ((v.k : Int), bs v.t, v.n, v.i.of, v.m.map bs) := by
  induction M with
  | zero => intro v h; exact absurd h (Nat.not_lt_zero _)
  | succ M ih =>
    intro v hM hc hs
    obtain ⟨s1, s2, s3, s4, s5, s6, s7, _⟩ := hs
    refine Ev.step (fun k => by rw [bellmanref09_Copy.f]) ?_
    refine Ev.bind (Ev.now _) (Ev.ip (by simp; omega) ?_)
    have loop : ∀ d j (acc : List SV), v.i.len - j = d → j ≤ v.i.len → acc.length + d ≤ 1048576 →
        Ev (fun k => bellmanref09_Copy.l0 k acc v.i.of (v.i.len : Int) (j : Int) (v.k : Int) (bs v.t) v.n v.i.of ([] ++ v.m.map bs)) ((v.k : Int), bs v.t, v.n, acc ++ (v.i.drop j).of, v.m.map bs) := by
      intro d
      induction d with
      | zero =>
        intro j acc h1 h2 hx
        obtain rfl : j = v.i.len := by omega
        refine Ev.step (fun k => by rw [bellmanref09_Copy.l0]) (Ev.im (by omega) (Ev.val ?_))
        rw [dropV_all]
        simp [Vals.of]
      | succ d ihd =>
        intro j acc h1 h2 hx
        have g0 : j < v.i.len := by omega
        have g1 : (j : Int) < (v.i.len : Int) := Int.ofNat_lt.2 g0
        have g2 : (j : Int) < (v.i.of.length : Int) := by rw [of_len]; exact g1
        have g4 : v.i.len - (j + 1) = d := by omega
        have g5 : acc.length < 1759218604441 := by omega
        have g6 : (acc.length + 1) + d ≤ 1048576 := by omega
        obtain ⟨k', t', n', i', m', hd⟩ := dropV_cases v.i j g0
        obtain ⟨_, _, h3⟩ := drop_step hd
        have hcd := cnt_drop v.i j
        have hsd := sm_drop s7 j
        rw [hd] at hcd hsd
        simp only [cnt] at hcd
        have hl := lenV_cnt v.i
        have hw := w64 j (by omega)
        have e1 : Ev (fun k => bellmanref09_Copy.f k (k' : Int) (bs t') n' i'.of (m'.map bs)) ((k' : Int), bs t', n', i'.of, m'.map bs) := ih ⟨k', t', n', i', m'⟩ (by simp only; omega) (by simp only; omega) (smV_of hsd)
        rw [hd]
        refine Ev.step (fun k => by rw [bellmanref09_Copy.l0, h3, hw]) ?_
        dsimp only
        refine Ev.ip g1 (Ev.ip (Int.natCast_nonneg j) (Ev.ip g2 (Ev.bind e1 ?_)))
        dsimp only
        refine Ev.ip g5 (Ev.eq (ihd (j + 1) (acc ++ [⟨(k' : Int), bs t', n', i'.of, m'.map bs⟩]) g4 g0 (by rw [List.length_append]; exact g6)) ?_)
        simp [Vals.of]
    have hl := lenV_cnt v.i
    have h := loop v.i.len 0 [] (by omega) (Nat.zero_le _) (by simp; omega)
    rw [Vals.drop_zero] at h
    rw [Vals.of_len]
    exact Ev.eq h (by simp)
def tupV (x : Val) (k : Int) : Int × ByteArray × Int × List SV × List ByteArray × Int := ((x.k : Int), bs x.t, x.n, x.i.of, x.m.map bs, k)
def tupO : Option Val → Int × ByteArray × Int × List SV × List ByteArray × Int
  | some x => tupV x 0
  | none => tupV Val.zero 3
def tupE : Except Int Val → Int × ByteArray × Int × List SV × List ByteArray × Int
  | .ok x => tupV x 0
  | .error e => tupV Val.zero e
theorem findV_cons (v : Val) (s : S) (r : List S) : findV v (s :: r) = if v.m.contains s = true then (match v.i.nth (posS v.m s) with
    | some x => findV x r
    | none => none) else none := by rw [findV]; rfl
set_option maxHeartbeats 1000000 in
theorem find09_ev : ∀ (p : List S) (v : Val), p.length ≤ 1048576 → v.ok = true → v.sm →
    Ev (fun k => bellmanref09_find.f k (v.k : Int) (bs v.t) v.n v.i.of (v.m.map bs) (p.map bs)) (tupO (findV v p)) := by
  intro p
  induction p with
  | nil =>
    intro v _ hok hs
    have hf := fit_of ⟨hok, hs⟩
    refine Ev.step (fun k => by rw [bellmanref09_find.f]) (Ev.ip (by simp) (Ev.bind (copy09_ev _ v (Nat.lt_succ_self _) hf.2 hs) (Ev.val ?_)))
    rw [findV]; rfl
  | cons s r ih =>
    intro v hp hok hs
    have hf := fit_of ⟨hok, hs⟩
    have hs0 := hs
    obtain ⟨s1, s2, s3, s4, s5, s6, s7, _⟩ := hs
    have hleaf := leaf_rising ((chkV_iff _ _ _ _ _).1 hok).1
    simp only [List.length_cons] at hp
    refine Ev.step (fun k => by rw [bellmanref09_find.f]) (Ev.im (by simp; omega) ?_)
    rw [findV_cons]
    have loop : ∀ d j, v.m.length - j = d → j ≤ v.m.length → (∀ y, y ∈ v.m.take j → y ≠ s) →
        Ev (fun k => bellmanref09_find.l0 k ((s :: r).map bs) (v.m.map bs) (v.m.length : Int) (j : Int) (v.k : Int) (bs v.t) v.n v.i.of (v.m.map bs)) (tupO (if v.m.contains s = true then (match v.i.nth (posS v.m s) with
          | some x => findV x r
          | none => none) else none)) := by
      intro d
      induction d with
      | zero =>
        intro j h1 h2 hno
        obtain rfl : j = v.m.length := by omega
        refine Ev.step (fun k => by rw [bellmanref09_find.l0]) (Ev.im (by omega) (Ev.val ?_))
        rw [List.take_length] at hno
        rw [if_neg (by simp only [List.contains_iff_mem]; exact fun h => hno s h rfl)]
        rfl
      | succ d ihd =>
        intro j h1 h2 hno
        have hj : j < v.m.length := by omega
        have hw := w64 j (by omega)
        have g1 : (j : Int) < (v.m.length : Int) := Int.ofNat_lt.2 hj
        have g2 : (j : Int) < ((v.m.map bs).length : Int) := by rw [List.length_map]; exact g1
        have g3 : (0 : Int) < (((s :: r).map bs).length : Int) := by simp
        have g4 : (1 : Int) ≤ (((s :: r).map bs).length : Int) := by rw [List.length_map, List.length_cons]; exact Int.ofNat_le.2 (Nat.le_add_left 1 _)
        have g5 : v.m.length - (j + 1) = d := by omega
        have hg : v.m.getD j [] = v.m[j] := by simp [List.getD, hj]
        refine Ev.step (fun k => by rw [bellmanref09_find.l0, rd_bs hj, hw]) ?_
        refine Ev.ip g1 (Ev.ip (Int.natCast_nonneg j) (Ev.ip g2 (Ev.ip g3 ?_)))
        have hr0 : (rdOf ByteArray.empty ((s :: r).map bs) 0).toList = s := by
          show (bs s).toList = s
          exact bs_list s
        rw [hr0, bs_list]
        by_cases heq : v.m.getD j [] = s
        · have hil : v.m.length = v.i.len := hleaf.2 (Nat.lt_of_le_of_lt (Nat.zero_le _) hj)
          refine Ev.ip heq (Ev.ip (by rw [of_len, ← hil]; exact g1) (Ev.ip g4 ?_))
          have hpos : posS v.m s = j := by
            unfold posS
            rw [List.findIdx_eq hj]
            refine ⟨by rw [← hg, heq]; simp, fun q hq => ?_⟩
            have : v.m[q] ∈ v.m.take j := List.mem_take_iff_getElem.2 ⟨q, by omega, rfl⟩
            simpa using hno _ this
          obtain ⟨x, q, hx, hd⟩ := nth_some v.i (j := j) (hil ▸ hj)
          obtain ⟨_, _, h3⟩ := drop_step hd
          have hmem : v.m.contains s = true := by
            simp only [List.contains_iff_mem]
            rw [← heq, hg]; exact List.getElem_mem hj
          rw [if_pos hmem, hpos, hx, h3]
          have hxo := ok_nth hok hx
          have hxs := sm_nth v.i s7 hx
          refine Ev.bind (ih x (by omega) hxo hxs) (Ev.val ?_)
          simp only
        · refine Ev.im heq (ihd (j + 1) g5 hj (fun y hy => ?_))
          rw [List.take_succ_eq_append_getElem hj] at hy
          rcases List.mem_append.1 hy with hy | hy
          · exact hno y hy
          · rw [List.mem_singleton.1 hy, ← hg]; exact heq
    have h := loop v.m.length 0 (by omega) (Nat.zero_le _) (fun y hy => by simp at hy)
    rw [List.length_map]
    exact h
theorem Find09_ev (p : List S) (v : Val) (hp : p.length ≤ 1048576) (hf : v.fit) : Ev (fun k => bellmanref09_Find.f k (v.k : Int) (bs v.t) v.n v.i.of (v.m.map bs) (p.map bs)) (tupE (FindP v p)) := by
  unfold bellmanref09_Find.f
  refine Ev.bind (check09_ev v hf.2 hf.1) ?_
  unfold FindP
  by_cases hok : v.ok = true
  · rw [if_pos hok, if_pos hok]
    refine Ev.ip rfl (Ev.bind (find09_ev p v hp hok hf.1) (Ev.val ?_))
    cases findV v p <;> rfl
  · rw [if_neg hok, if_neg hok]
    exact Ev.im (by decide) (Ev.val rfl)
theorem sameT_ev (p : List S) (hp : p.length ≤ 1048576) : Ev (fun k => bellmanref01_SameTexts.f k (p.map bs) (p.map bs)) true := by
  obtain ⟨k, hk⟩ := same_f p p hp
  rw [decide_eq_true rfl] at hk
  exact Ev.of (bellmanref01_SameTexts.mono _ _) hk
set_option maxHeartbeats 1000000 in
theorem same09_ev (M : Nat) : ∀ (v : Val), v.i.cnt < M → v.i.cnt ≤ 1048576 → v.sm →
    Ev (fun k => bellmanref09_Same.f k (v.k : Int) (bs v.t) v.n v.i.of (v.m.map bs) (v.k : Int) (bs v.t) v.n v.i.of (v.m.map bs)) true := by
  induction M with
  | zero => intro v h; exact absurd h (Nat.not_lt_zero _)
  | succ M ih =>
    intro v hM hc hs
    obtain ⟨s1, s2, s3, s4, s5, s6, s7, _⟩ := hs
    refine Ev.step (fun k => by rw [bellmanref09_Same.f]) ?_
    refine Ev.ip rfl (Ev.ip rfl (Ev.ip rfl (Ev.ip rfl (Ev.bind (sameT_ev v.m s5) ?_))))
    refine Ev.step (fun k => by rw [bellmanref09_Same.j0]) (Ev.im (by simp) ?_)
    have loop : ∀ d j, v.i.len - j = d → j ≤ v.i.len →
        Ev (fun k => bellmanref09_Same.l0 k (v.i.len : Int) (j : Int) (v.k : Int) (bs v.t) v.n v.i.of (v.m.map bs) (v.k : Int) (bs v.t) v.n v.i.of (v.m.map bs)) true := by
      intro d
      induction d with
      | zero =>
        intro j h1 h2
        exact Ev.step (fun k => by rw [bellmanref09_Same.l0]) (Ev.im (by omega) (Ev.now _))
      | succ d ihd =>
        intro j h1 h2
        have g0 : j < v.i.len := by omega
        have g1 : (j : Int) < (v.i.len : Int) := Int.ofNat_lt.2 g0
        have g2 : (j : Int) < (v.i.of.length : Int) := by rw [of_len]; exact g1
        have g4 : v.i.len - (j + 1) = d := by omega
        obtain ⟨k', t', n', i', m', hd⟩ := dropV_cases v.i j g0
        obtain ⟨_, _, h3⟩ := drop_step hd
        have hcd := cnt_drop v.i j
        have hsd := sm_drop s7 j
        rw [hd] at hcd hsd
        simp only [cnt] at hcd
        have hl := lenV_cnt v.i
        have hw := w64 j (by omega)
        have e1 : Ev (fun k => bellmanref09_Same.f k (k' : Int) (bs t') n' i'.of (m'.map bs) (k' : Int) (bs t') n' i'.of (m'.map bs)) true := ih ⟨k', t', n', i', m'⟩ (by simp only; omega) (by simp only; omega) (smV_of hsd)
        refine Ev.step (fun k => by rw [bellmanref09_Same.l0, h3, hw]) ?_
        dsimp only
        refine Ev.ip g1 (Ev.ip (Int.natCast_nonneg j) (Ev.ip g2 (Ev.ip g2 (Ev.bind e1 (Ev.ip rfl ?_)))))
        exact ihd (j + 1) g4 g0
    have h := loop v.i.len 0 (by omega) (Nat.zero_le _)
    rw [Vals.of_len]
    exact h
def Res9 (o : Except Int Val) (B : Nat) (w' : World) (x : Val) (k : Int) (E3 : Option Addr) (f3 : Nat) (E4 : Option Addr) (f4 : Nat) : Prop :=
  RV w' (fun q => B ≤ q) x E3 f3 E4 f4 ∧ match o with | .ok y => x = y ∧ k = 0 | .error j => k = j ∧ x = Val.zero
def Ret9 (o : Except Int Val) (w : World) (e : Ending) (w' : World) : Prop :=
  Below w.heap.size w w' ∧ ∃ x k E3 f3 E4 f4, e = .returned (.tuple #[vAgg x E3 f3 E4 f4, .int .i64 k]) ∧ Res9 o w.heap.size w' x k E3 f3 E4 f4
theorem rdV_args {w : World} {v : Val} {A3 : Option Addr} {c3 : Nat} {A4 : Option Addr} {c4 : Nat} (h : RdV w v A3 c3 A4 c4) :
    Kd.C kV w A3 v.i.of.length v.i.of ∧ v.i.of.length ≤ c3 ∧ Kd.C Kd.string w A4 (v.m.map bs).length (v.m.map bs) ∧ (v.m.map bs).length ≤ c4 := by
  refine ⟨by rw [Vals.of_len]; exact h.1.1, by rw [Vals.of_len]; exact h.1.2, by rw [List.length_map]; exact h.2.1, by rw [List.length_map]; exact h.2.2⟩
theorem rv_of_R {w' : World} {base : Nat} {ok3 ok4 : Nat → Prop} {v3 v4 : Value} {x : Val} (h3 : Kd.R kV 43 w' base ok3 v3 x.i.of) (h4 : Kd.R Kd.string 9 w' base ok4 v4 (x.m.map bs)) :
    ∃ E3 f3 E4 f4, v3 = .slice E3 x.i.len f3 ∧ v4 = .slice E4 x.m.length f4 ∧ RV w' (fun q => base ≤ q) x E3 f3 E4 f4 := by
  obtain ⟨E3, f3, rfl, l3, _⟩ := Kd.R_reads h3
  obtain ⟨E4, f4, rfl, l4, _⟩ := Kd.R_reads h4
  have F3 := Kd.F_mono (Kd.R_F (Kd.R_bound h3)) (ok' := fun q => base ≤ q) (fun k hk => hk.2.1)
  have F4 := Kd.F_mono (Kd.R_F (Kd.R_bound h4)) (ok' := fun q => base ≤ q) (fun k hk => hk.2.1)
  rw [Vals.of_len] at F3 l3 ⊢
  rw [List.length_map] at F4 l4 ⊢
  exact ⟨E3, f3, E4, f4, rfl, rfl, ⟨F3, l3⟩, ⟨F4, l4⟩⟩
theorem rvfind_any (v : Val) (A3 : Option Addr) (c3 : Nat) (A4 : Option Addr) (c4 : Nat) (Ap : Option Addr) (cp : Nat) (p : List S) (w : World) (hf : v.fit) (hV : RdV w v A3 c3 A4 c4) (hP : RdS w Ap cp p) (hp : p.length ≤ 1048576) :
    Calls Tryz.prog 90 #[vAgg v A3 c3 A4 c4, .slice Ap p.length cp] w (Ret9 (FindP v p) w) := by
  obtain ⟨k, hk⟩ := (Find09_ev p v hp hf).rounds
  obtain ⟨a1, a2, a3, a4⟩ := rdV_args hV
  cases hF : FindP v p with
  | ok x =>
    rw [hF] at hk
    have := bellmanref09_Find.calls k _ _ _ A3 c3 _ A4 c4 _ Ap cp _ _ _ _ _ _ _ w a1 a2 a3 a4 (by rw [List.length_map]; exact hP.1) (by rw [List.length_map]; exact hP.2) hk
    rw [Vals.of_len, List.length_map, List.length_map] at this
    refine this.mono ?_
    rintro e w' ⟨v3, v4, rfl, h3, h4, hb⟩
    obtain ⟨E3, f3, E4, f4, rfl, rfl, hr⟩ := rv_of_R (x := x) h3 h4
    exact ⟨hb, x, 0, E3, f3, E4, f4, rfl, hr, rfl, rfl⟩
  | error j =>
    rw [hF] at hk
    have := bellmanref09_Find.calls k _ _ _ A3 c3 _ A4 c4 _ Ap cp _ _ _ _ _ _ _ w a1 a2 a3 a4 (by rw [List.length_map]; exact hP.1) (by rw [List.length_map]; exact hP.2) hk
    rw [Vals.of_len, List.length_map, List.length_map] at this
    refine this.mono ?_
    rintro e w' ⟨v3, v4, rfl, h3, h4, hb⟩
    obtain ⟨E3, f3, E4, f4, rfl, rfl, hr⟩ := rv_of_R (x := Val.zero) h3 h4
    exact ⟨hb, Val.zero, j, E3, f3, E4, f4, rfl, hr, rfl, rfl⟩
theorem rvchk_any (v : Val) (A3 : Option Addr) (c3 : Nat) (A4 : Option Addr) (c4 : Nat) (w : World) (hf : v.fit) (hV : RdV w v A3 c3 A4 c4) :
    Calls Tryz.prog 58 #[vAgg v A3 c3 A4 c4] w fun e w' => e = .returned (.int .i64 (if v.ok = true then 0 else 2)) ∧ Below w.heap.size w w' := by
  obtain ⟨k, hk⟩ := (check09_ev v hf.2 hf.1).rounds
  obtain ⟨a1, a2, a3, a4⟩ := rdV_args hV
  have := bellmanref09_Check.calls k _ _ _ A3 c3 _ A4 c4 _ _ w a1 a2 a3 a4 hk
  rwa [Vals.of_len, List.length_map] at this
theorem rvsame_any (v : Val) (A3 : Option Addr) (c3 : Nat) (A4 : Option Addr) (c4 : Nat) (B3 : Option Addr) (d3 : Nat) (B4 : Option Addr) (d4 : Nat) (w : World) (hf : v.fit) (hV : RdV w v A3 c3 A4 c4) (hW : RdV w v B3 d3 B4 d4) :
    Calls Tryz.prog 33 #[vAgg v A3 c3 A4 c4, vAgg v B3 d3 B4 d4] w fun e w' => e = .returned (.bool true) ∧ Below w.heap.size w w' := by
  obtain ⟨k, hk⟩ := (same09_ev _ v (Nat.lt_succ_self _) hf.2 hf.1).rounds
  obtain ⟨a1, a2, a3, a4⟩ := rdV_args hV
  obtain ⟨b1, b2, b3, b4⟩ := rdV_args hW
  have := bellmanref09_Same.calls k _ _ _ A3 c3 _ A4 c4 _ _ _ _ B3 d3 _ B4 d4 _ _ w a1 a2 a3 a4 b1 b2 b3 b4 hk
  rwa [Vals.of_len, List.length_map] at this
end Go.Proofs.YtniibpndgcndbaaGreatDoor.Tpl
namespace Go.Proofs.YtniibpndgcndbaaGreatDoor.Esc
open Go.RowKit Go.Proofs.YtniibpndgcndbaaGreatDoor.Bld Go.Proofs.YtniibpndgcndbaaGreatDoorW.PrintWords
def hexL : List UInt8 := [48, 49, 50, 51, 52, 53, 54, 55, 56, 57, 97, 98, 99, 100, 101, 102]
def pushN (n : Nat) : List UInt8 :=
  if n = 10 then [92, 110] else if n = 9 then [92, 116] else if n < 32 ∨ n = 127 then [92, 117, 48, 48, hexL.getD (n / 16) 0, hexL.getD (n % 16) 0] else if n = 34 ∨ n = 92 then [92, UInt8.ofNat n] else [UInt8.ofNat n]
theorem hexAt (i : Nat) (h : i < (⟨#[48, 49, 50, 51, 52, 53, 54, 55, 56, 57, 97, 98, 99, 100, 101, 102]⟩ : ByteArray).size) : (⟨#[48, 49, 50, 51, 52, 53, 54, 55, 56, 57, 97, 98, 99, 100, 101, 102]⟩ : ByteArray)[i] = hexL.getD i 0 := by
  have : ∀ j : Fin 16, (⟨#[48, 49, 50, 51, 52, 53, 54, 55, 56, 57, 97, 98, 99, 100, 101, 102]⟩ : ByteArray)[j.val]'j.isLt = hexL.getD j.val 0 := by decide
  exact this ⟨i, h⟩
theorem pushN_le (n : Nat) : 1 ≤ (pushN n).length ∧ (pushN n).length ≤ 6 := by
  unfold pushN; repeat' split
  all_goals simp
set_option maxHeartbeats 2000000 in
set_option maxRecDepth 100000 in
theorem push_any (B b : Nat) (bs : List Value) (n : Nat) (hn : n < 256) (w : World) (h : IsB B b bs w) (hlen : bs.length + 6 ≤ 140737488355328) (hBw : B ≤ w.heap.size) :
    Calls Tryz.prog 183 #[.pointer (some ⟨b, 0, none⟩), .int .u8 n] w fun e w' => e = .returned (.tuple #[]) ∧ IsB B b (bs ++ Lib.byteCells (pushN n)) w' ∧ Below B w w' := by
  by_cases c1 : n = 10
  · subst c1
    go_enter Tryz.func183, Tryz.ntmps183
    go_wp2_with fail
    refine (writeString B b bs _ _ h (show bs.length + 2 ≤ _ by omega) hBw).mono ?_
    rintro e w1 ⟨rfl, h1, hb1⟩
    go_wp2
    go_end0
    exact ⟨rfl, h1, hb1⟩
  by_cases c2 : n = 9
  · subst c2
    go_enter Tryz.func183, Tryz.ntmps183
    go_wp2_with fail
    refine (writeString B b bs _ _ h (show bs.length + 2 ≤ _ by omega) hBw).mono ?_
    rintro e w1 ⟨rfl, h1, hb1⟩
    go_wp2
    go_end0
    exact ⟨rfl, h1, hb1⟩
  have t1 : ((n : Int) == 10) = false := by rw [beq_eq_false_iff_ne]; omega
  have t2 : ((n : Int) == 9) = false := by rw [beq_eq_false_iff_ne]; omega
  by_cases c3 : n < 32 ∨ n = 127
  · have e : pushN n = [92, 117, 48, 48, hexL.getD (n / 16) 0, hexL.getD (n % 16) 0] := by unfold pushN; rw [if_neg c1, if_neg c2, if_pos c3]
    rw [e]
    clear e
    have hq : n / 16 < 16 := by omega
    have hr : n % 16 < 16 := by omega
    by_cases c4 : n < 32
    · have t3 : decide ((n : Int) < 32) = true := by simp; omega
      clear c1 c2 c3
      go_enter Tryz.func183, Tryz.ntmps183
      go_wp2_with fail
      refine (writeString B b bs _ _ h (show bs.length + 4 ≤ _ by omega) hBw).mono ?_
      rintro e w1 ⟨rfl, h1, hb1⟩
      go_wp2_with fail
      refine (writeByte B b _ _ _ h1 (by simp [Lib.strCells]; omega) (by have := hb1.size; omega)).mono ?_
      rintro e w2 ⟨rfl, h2, hb2⟩
      go_wp2_with fail
      refine (writeByte B b _ _ _ h2 (by simp [Lib.strCells]; omega) (by have := hb1.size; have := hb2.size; omega)).mono ?_
      rintro e w3 ⟨rfl, h3, hb3⟩
      go_wp2
      go_end0
      exact ⟨rfl, by rw [hexAt, hexAt] at h3; simpa [Lib.strCells, Lib.byteCells] using h3, (hb1.trans hb2).trans hb3⟩
    · obtain rfl : n = 127 := by omega
      clear c1 c2 c3
      go_enter Tryz.func183, Tryz.ntmps183
      go_wp2_with fail
      refine (writeString B b bs _ _ h (show bs.length + 4 ≤ _ by omega) hBw).mono ?_
      rintro e w1 ⟨rfl, h1, hb1⟩
      go_wp2_with fail
      refine (writeByte B b _ _ _ h1 (by simp [Lib.strCells]; omega) (by have := hb1.size; omega)).mono ?_
      rintro e w2 ⟨rfl, h2, hb2⟩
      go_wp2_with fail
      refine (writeByte B b _ _ _ h2 (by simp [Lib.strCells]; omega) (by have := hb1.size; have := hb2.size; omega)).mono ?_
      rintro e w3 ⟨rfl, h3, hb3⟩
      go_wp2
      go_end0
      exact ⟨rfl, by rw [hexAt, hexAt] at h3; simpa [Lib.strCells, Lib.byteCells, hexL] using h3, (hb1.trans hb2).trans hb3⟩
  have t3 : decide ((n : Int) < 32) = false := by simp; omega
  have t4 : ((n : Int) == 127) = false := by rw [beq_eq_false_iff_ne]; omega
  by_cases c4 : n = 34
  · subst c4
    go_enter Tryz.func183, Tryz.ntmps183
    go_wp2_with fail
    refine (writeByte B b bs _ _ h (by omega) hBw).mono ?_
    rintro e w1 ⟨rfl, h1, hb1⟩
    go_wp2_with fail
    refine (writeByte B b _ _ _ h1 (by simp; omega) (by have := hb1.size; omega)).mono ?_
    rintro e w2 ⟨rfl, h2, hb2⟩
    go_wp2
    go_end0
    exact ⟨rfl, by simpa [pushN, Lib.byteCells] using h2, hb1.trans hb2⟩
  by_cases c5 : n = 92
  · subst c5
    go_enter Tryz.func183, Tryz.ntmps183
    go_wp2_with fail
    refine (writeByte B b bs _ _ h (by omega) hBw).mono ?_
    rintro e w1 ⟨rfl, h1, hb1⟩
    go_wp2_with fail
    refine (writeByte B b _ _ _ h1 (by simp; omega) (by have := hb1.size; omega)).mono ?_
    rintro e w2 ⟨rfl, h2, hb2⟩
    go_wp2
    go_end0
    exact ⟨rfl, by simpa [pushN, Lib.byteCells] using h2, hb1.trans hb2⟩
  have t5 : ((n : Int) == 34) = false := by rw [beq_eq_false_iff_ne]; omega
  have t6 : ((n : Int) == 92) = false := by rw [beq_eq_false_iff_ne]; omega
  have e : Lib.byteCells (pushN n) = [.int .u8 n] := by
    unfold pushN; rw [if_neg c1, if_neg c2, if_neg c3, if_neg (by omega)]
    simp [Lib.byteCells]; omega
  rw [e]
  clear e c1 c2 c3 c4 c5
  go_enter Tryz.func183, Tryz.ntmps183
  go_wp2_with fail
  refine (writeByte B b bs _ _ h (by omega) hBw).mono ?_
  rintro e w1 ⟨rfl, h1, hb1⟩
  go_wp2
  go_end0
  exact ⟨rfl, h1, hb1⟩
def entN (n : Nat) : List UInt8 :=
  if n = 38 then [38, 97, 109, 112, 59] else if n = 60 then [38, 108, 116, 59] else if n = 62 then [38, 103, 116, 59] else if n = 34 then [38, 113, 117, 111, 116, 59] else if n = 39 then [38, 35, 51, 57, 59] else []
theorem entity_any (n : Nat) (w : World) : Calls Tryz.prog 197 #[.int .u8 n] w fun e w' => e = .returned (.string ⟨(entN n).toArray⟩) ∧ w = w' := by
  by_cases c1 : n = 38
  · subst c1
    go_enter Tryz.func197, Tryz.ntmps197
    go_wp2
    go_ret
    exact ⟨rfl, rfl⟩
  by_cases c2 : n = 60
  · subst c2
    go_enter Tryz.func197, Tryz.ntmps197
    go_wp2
    go_ret
    exact ⟨rfl, rfl⟩
  by_cases c3 : n = 62
  · subst c3
    go_enter Tryz.func197, Tryz.ntmps197
    go_wp2
    go_ret
    exact ⟨rfl, rfl⟩
  by_cases c4 : n = 34
  · subst c4
    go_enter Tryz.func197, Tryz.ntmps197
    go_wp2
    go_ret
    exact ⟨rfl, rfl⟩
  by_cases c5 : n = 39
  · subst c5
    go_enter Tryz.func197, Tryz.ntmps197
    go_wp2
    go_ret
    exact ⟨rfl, rfl⟩
  have e : entN n = [] := by unfold entN; rw [if_neg c1, if_neg c2, if_neg c3, if_neg c4, if_neg c5]
  rw [e]
  have t1 : ((n : Int) == 38) = false := by rw [beq_eq_false_iff_ne]; omega
  have t2 : ((n : Int) == 60) = false := by rw [beq_eq_false_iff_ne]; omega
  have t3 : ((n : Int) == 62) = false := by rw [beq_eq_false_iff_ne]; omega
  have t4 : ((n : Int) == 34) = false := by rw [beq_eq_false_iff_ne]; omega
  have t5 : ((n : Int) == 39) = false := by rw [beq_eq_false_iff_ne]; omega
  clear e c1 c2 c3 c4 c5
  go_enter Tryz.func197, Tryz.ntmps197
  go_wp2
  go_ret
  exact ⟨rfl, rfl⟩
def emailN (n : Nat) : List UInt8 := if entN n = [] then [UInt8.ofNat n] else entN n
theorem entN_le (n : Nat) : (entN n).length ≤ 6 := by
  unfold entN; repeat' split
  all_goals simp
theorem emailN_le (n : Nat) : 1 ≤ (emailN n).length ∧ (emailN n).length ≤ 6 := by
  have := entN_le n
  unfold emailN; split
  · simp
  · rename_i h
    exact ⟨by cases hh : entN n with
      | nil => exact absurd hh h
      | cons a l => simp, this⟩
theorem byteCells_one (n : Nat) (hn : n < 256) : Lib.byteCells [UInt8.ofNat n] = [.int .u8 n] := by simp [Lib.byteCells]; omega
theorem email_any (B b : Nat) (bs : List Value) (n : Nat) (hn : n < 256) (w : World) (h : IsB B b bs w) (hlen : bs.length + 6 ≤ 140737488355328) (hBw : B ≤ w.heap.size) :
    Calls Tryz.prog 184 #[.pointer (some ⟨b, 0, none⟩), .int .u8 n] w fun e w' => e = .returned (.tuple #[]) ∧ IsB B b (bs ++ Lib.byteCells (emailN n)) w' ∧ Below B w w' := by
  have hl := entN_le n
  have he := entity_any n w
  have eE : emailN n = if entN n = [] then [UInt8.ofNat n] else entN n := rfl
  rw [eE]
  clear eE
  generalize entN n = l at *
  cases l with
  | nil =>
    rw [if_pos rfl, byteCells_one n hn]
    go_enter Tryz.func184, Tryz.ntmps184
    go_wp2_with fail
    refine he.mono ?_
    rintro e w1 ⟨rfl, rfl⟩
    go_wp2_with fail
    refine (writeByte B b bs _ _ h (by omega) hBw).mono ?_
    rintro e w1 ⟨rfl, h1, hb1⟩
    go_wp2
    go_end0
    exact ⟨rfl, h1, hb1⟩
  | cons a l =>
    rw [if_neg (by simp)]
    go_enter Tryz.func184, Tryz.ntmps184
    go_wp2_with fail
    refine he.mono ?_
    rintro e w1 ⟨rfl, rfl⟩
    go_wp2_with fail
    refine (writeString B b bs _ _ h (show bs.length + (a :: l).length ≤ _ by omega) hBw).mono ?_
    rintro e w1 ⟨rfl, h1, hb1⟩
    go_wp2
    (try simp only [Exit.inBlock, Exit.then])
    refine bodyPost_ret (results_none rfl _ _ _) rfl ⟨rfl, h1, hb1⟩
def smsStep (st : List UInt8 × Bool) (c : UInt8) : List UInt8 × Bool :=
  if c = 10 ∨ c = 9 then (st.1 ++ [32], false) else if 32 ≤ c ∧ c ≤ 126 then (st.1 ++ [c], false) else if st.2 = true then st else (st.1 ++ [63], true)
def smsF (l : List UInt8) : List UInt8 × Bool := l.foldl smsStep ([], false)
theorem smsStep_le (st : List UInt8 × Bool) (c : UInt8) : (smsStep st c).1.length ≤ st.1.length + 1 := by
  unfold smsStep; repeat' split
  all_goals simp
theorem smsF_snoc (l : List UInt8) (c : UInt8) : smsF (l ++ [c]) = smsStep (smsF l) c := by unfold smsF; rw [List.foldl_append]; rfl
theorem smsF_le' (l : List UInt8) : ∀ st, (l.foldl smsStep st).1.length ≤ st.1.length + l.length := by
  induction l with
  | nil => intro st; simp
  | cons c l ih => intro st; have := smsStep_le st c; have := ih (smsStep st c); simp only [List.foldl_cons, List.length_cons]; omega
theorem smsF_le (l : List UInt8) : (smsF l).1.length ≤ l.length := by have := smsF_le' l ([], false); simpa [smsF] using this
theorem u8_eq (c : UInt8) (n : Nat) (hn : n < 256) : c = UInt8.ofNat n ↔ c.toNat = n := by
  constructor
  · rintro rfl; simp; omega
  · intro h; apply UInt8.toNat_inj.1; simp; omega
theorem sms10 (st : List UInt8 × Bool) (c : UInt8) (h : c.toNat = 10 ∨ c.toNat = 9) : smsStep st c = (st.1 ++ [32], false) := by
  unfold smsStep; rw [if_pos]; rcases h with h | h
  · exact .inl ((u8_eq c 10 (by decide)).2 h)
  · exact .inr ((u8_eq c 9 (by decide)).2 h)
theorem smsPlain (st : List UInt8 × Bool) (c : UInt8) (h1 : 32 ≤ c.toNat) (h2 : c.toNat ≤ 126) : smsStep st c = (st.1 ++ [c], false) := by
  unfold smsStep; rw [if_neg, if_pos]
  · exact ⟨UInt8.le_iff_toNat_le.2 h1, UInt8.le_iff_toNat_le.2 h2⟩
  · rintro (h | h) <;> subst h <;> simp at h1
theorem smsOther (st : List UInt8 × Bool) (c : UInt8) (h0 : c.toNat ≠ 10 ∧ c.toNat ≠ 9) (h : ¬ (32 ≤ c.toNat ∧ c.toNat ≤ 126)) : smsStep st c = if st.2 = true then st else (st.1 ++ [63], true) := by
  unfold smsStep; rw [if_neg, if_neg]
  · rintro ⟨a, b⟩; exact h ⟨UInt8.le_iff_toNat_le.1 a, UInt8.le_iff_toNat_le.1 b⟩
  · rintro (h | h)
    · exact h0.1 ((u8_eq c 10 (by decide)).1 h)
    · exact h0.2 ((u8_eq c 9 (by decide)).1 h)
theorem cells_snoc (l : List UInt8) (c : UInt8) : Lib.byteCells (l ++ [c]) = Lib.byteCells l ++ [.int .u8 c.toNat] := by simp [Lib.byteCells]
theorem take_snoc (s : ByteArray) (k : Nat) (h : k < s.size) : s.data.toList.take (k + 1) = s.data.toList.take k ++ [s[k]] := by
  rw [List.take_succ_eq_append_getElem (by simpa using h)]; rfl
set_option maxHeartbeats 4000000 in
set_option maxRecDepth 100000 in
theorem sms_any (B b : Nat) (s : ByteArray) (w : World) (h : IsB B b [] w) (hs : s.size ≤ 140737488351232) (hBw : B ≤ w.heap.size) :
    Calls Tryz.prog 182 #[.pointer (some ⟨b, 0, none⟩), .string s] w fun e w' => e = .returned (.tuple #[]) ∧ IsB B b (Lib.byteCells (smsF s.data.toList).1) w' ∧ Below B w w' := by
  go_enter Tryz.func182, Tryz.ntmps182
  go_wp2
  go_loopw [4, 9] (fun r i wr => ∃ k : Nat, k ≤ s.size ∧ i = .int .i64 k ∧ r = .bool (smsF (s.data.toList.take k)).2 ∧ Aside0 (IsB B b (Lib.byteCells (smsF (s.data.toList.take k)).1) wr) ∧ Aside0 (Below B w wr)) (fun _ i _ => s.size - (intOf i).toNat)
  case atStart => exact ⟨0, Nat.zero_le _, rfl, rfl, ⟨h⟩, ⟨Below.refl _ _⟩⟩
  case round =>
    obtain ⟨k, hk, rfl, rfl, ⟨hi⟩, ⟨hb⟩⟩ := hrel
    have hle := smsF_le (s.data.toList.take k)
    have hlk : (s.data.toList.take k).length ≤ k := List.length_take_le _ _
    by_cases hlt : k < s.size
    · have hsn : smsF (s.data.toList.take (k + 1)) = smsStep (smsF (s.data.toList.take k)) s[k] := by rw [take_snoc s k hlt, smsF_snoc]
      have hz := hb.size
      have hc := s[k].toNat_lt
      have HL : (Lib.byteCells (smsF (s.data.toList.take k)).1).length = (smsF (s.data.toList.take k)).1.length := by simp [Lib.byteCells]
      generalize smsF (s.data.toList.take k) = st at *
      obtain ⟨acc, run⟩ := st
      simp only at hi hle HL
      by_cases c1 : s[k].toNat = 10 ∨ s[k].toNat = 9
      · rw [sms10 _ _ c1] at hsn
        have HS := Lib.hid hsn
        clear hsn
        by_cases c2 : s[k].toNat = 10
        · have t1 : ((s[k].toNat : Int) == 10) = true := by rw [beq_iff_eq]; omega
          clear c1 c2
          go_wp2_with fail
          refine (writeByte B b _ _ _ hi (by omega) (by omega)).mono ?_
          rintro e w1 ⟨rfl, h1, hb1⟩
          go_wp2
          go_roundw
          case rel => exact ⟨k + 1, by omega, by go_num, by rw [HS.out], ⟨by rw [HS.out, cells_snoc]; exact h1⟩, ⟨hb.trans hb1⟩⟩
          case measure => simp [intOf]; omega
        · have t1 : ((s[k].toNat : Int) == 10) = false := by rw [beq_eq_false_iff_ne]; omega
          have t2 : ((s[k].toNat : Int) == 9) = true := by rw [beq_iff_eq]; omega
          clear c1 c2
          go_wp2_with fail
          refine (writeByte B b _ _ _ hi (by omega) (by omega)).mono ?_
          rintro e w1 ⟨rfl, h1, hb1⟩
          go_wp2
          go_roundw
          case rel => exact ⟨k + 1, by omega, by go_num, by rw [HS.out], ⟨by rw [HS.out, cells_snoc]; exact h1⟩, ⟨hb.trans hb1⟩⟩
          case measure => simp [intOf]; omega
      · have t1 : ((s[k].toNat : Int) == 10) = false := by rw [beq_eq_false_iff_ne]; omega
        have t2 : ((s[k].toNat : Int) == 9) = false := by rw [beq_eq_false_iff_ne]; omega
        by_cases c3 : 32 ≤ s[k].toNat ∧ s[k].toNat ≤ 126
        · rw [smsPlain _ _ c3.1 c3.2] at hsn
          have HS := Lib.hid hsn
          obtain ⟨t3, t4⟩ := c3
          clear hsn c1
          go_wp2_with fail
          refine (writeByte B b _ _ _ hi (by omega) (by omega)).mono ?_
          rintro e w1 ⟨rfl, h1, hb1⟩
          go_wp2
          go_roundw
          case rel => exact ⟨k + 1, by omega, by go_num, by rw [HS.out], ⟨by rw [HS.out, cells_snoc]; exact h1⟩, ⟨hb.trans hb1⟩⟩
          case measure => simp [intOf]; omega
        · rw [smsOther _ _ (by omega) c3] at hsn
          have HS := Lib.hid hsn
          clear hsn
          have t3 : s[k].toNat < 32 ∨ 126 < s[k].toNat := by omega
          clear c1 c3
          cases run with
          | true =>
            simp only [if_true] at HS
            rcases t3 with t3 | t3
            all_goals
              go_wp2
              go_roundw
              case rel => exact ⟨k + 1, by omega, by go_num, by rw [HS.out], ⟨by rw [HS.out]; exact hi⟩, ⟨hb⟩⟩
              case measure => simp [intOf]; omega
          | false =>
            simp only [Bool.false_eq_true, if_false] at HS
            rcases t3 with t3 | t3
            all_goals
              go_wp2_with fail
              refine (writeByte B b _ _ _ hi (by omega) (by omega)).mono ?_
              rintro e w1 ⟨rfl, h1, hb1⟩
              go_wp2
              go_roundw
              case rel => exact ⟨k + 1, by omega, by go_num, by rw [HS.out], ⟨by rw [HS.out, cells_snoc]; exact h1⟩, ⟨hb.trans hb1⟩⟩
              case measure => simp [intOf]; omega
    · have e : k = s.size := by omega
      have e2 : s.data.toList.take k = s.data.toList := List.take_of_length_le (by simp; omega)
      rw [e2] at hi
      clear e e2 hle hlk
      go_wp2
      go_end0
      exact ⟨rfl, hi, hb⟩
theorem is_any (c : Int) (h0 : 0 ≤ c) (w : World) : Calls Tryz.prog 181 #[.int .u8 c] w fun e w' => e = .returned (.bool (decide (1 ≤ c ∧ c ≤ 3))) ∧ w = w' := by
  by_cases c1 : 0 < c
  · by_cases c2 : c < 4
    · rw [decide_eq_true (by omega)]
      go_enter Tryz.func181, Tryz.ntmps181
      go_wp2
      go_ret
      exact ⟨rfl, rfl⟩
    · rw [decide_eq_false (by omega)]
      go_enter Tryz.func181, Tryz.ntmps181
      go_wp2
      go_ret
      exact ⟨rfl, rfl⟩
  · rw [decide_eq_false (by omega)]
    go_enter Tryz.func181, Tryz.ntmps181
    go_wp2
    go_ret
    exact ⟨rfl, rfl⟩
def noteL (l : List UInt8) : List UInt8 := l.flatMap fun c => pushN c.toNat
def mailL (l : List UInt8) : List UInt8 := l.flatMap fun c => emailN c.toNat
theorem noteL_le (l : List UInt8) : l.length ≤ (noteL l).length ∧ (noteL l).length ≤ 6 * l.length := by
  induction l with
  | nil => simp [noteL]
  | cons c l ih => have := pushN_le c.toNat; simp only [noteL, List.flatMap_cons, List.length_append, List.length_cons] at *; omega
theorem mailL_le (l : List UInt8) : l.length ≤ (mailL l).length ∧ (mailL l).length ≤ 6 * l.length := by
  induction l with
  | nil => simp [mailL]
  | cons c l ih => have := emailN_le c.toNat; simp only [mailL, List.flatMap_cons, List.length_append, List.length_cons] at *; omega
theorem noteL_snoc (l : List UInt8) (c : UInt8) : noteL (l ++ [c]) = noteL l ++ pushN c.toNat := by simp [noteL]
theorem mailL_snoc (l : List UInt8) (c : UInt8) : mailL (l ++ [c]) = mailL l ++ emailN c.toNat := by simp [mailL]
def toL (c : Int) (l : List UInt8) : List UInt8 := if c = 1 then noteL l else if c = 2 then mailL l else (smsF l).1
def esc_To.f (a0 : Int) (a1 : ByteArray) : Option (ByteArray × Int) :=
  if 0 ≤ a0 then (if 1 ≤ a0 ∧ a0 ≤ 3 then (if a1.size ≤ 23456248059221 then some (⟨(toL a0 a1.data.toList).toArray⟩, 0) else none) else some (⟨#[]⟩, 1)) else none
theorem newB (w : World) : IsB w.heap.size w.heap.size [] (w.alloc (.cells #[.pointer none, .slice none 0 0] 78)) := .of (Lib.fresh_isBuilder _ _ w)
theorem cells_len (l : List UInt8) : (Lib.byteCells l).length = l.length := by simp [Lib.byteCells]
set_option maxHeartbeats 4000000 in
set_option maxRecDepth 100000 in
theorem to_sms (s : ByteArray) (hs : s.size ≤ 140737488351232) (w : World) :
    Calls Tryz.prog 158 #[.int .u8 3, .string s] w fun e w' => e = .returned (.tuple #[.string ⟨(smsF s.data.toList).1.toArray⟩, .int .i64 0]) ∧ Below w.heap.size w w' := by
  have h0 := newB w
  go_enter Tryz.func158, Tryz.ntmps158
  go_wp2_with fail
  refine (is_any 3 (by decide) _).mono ?_
  rintro e w1 ⟨rfl, rfl⟩
  go_wp2_with fail
  refine (sms_any _ _ s _ h0 hs (by simp)).mono ?_
  rintro e w1 ⟨rfl, h1, hb1⟩
  go_wp2_with fail
  refine (string _ _ _ _ h1 (by have := hb1.size; simp at this; omega)).mono ?_
  rintro e w2 ⟨rfl, h2, hb2⟩
  go_wp2
  go_ret2
  exact ⟨rfl, (((Below.refl _ w).alloc (Nat.le_refl _) _).trans hb1).trans hb2⟩
set_option maxHeartbeats 4000000 in
set_option maxRecDepth 100000 in
theorem to_note (s : ByteArray) (hs : s.size ≤ 23456248059221) (w : World) :
    Calls Tryz.prog 158 #[.int .u8 1, .string s] w fun e w' => e = .returned (.tuple #[.string ⟨(noteL s.data.toList).toArray⟩, .int .i64 0]) ∧ Below w.heap.size w w' := by
  have h0 := newB w
  go_enter Tryz.func158, Tryz.ntmps158
  go_wp2_with fail
  refine (is_any 1 (by decide) _).mono ?_
  rintro e w1 ⟨rfl, rfl⟩
  go_wp2
  go_loopw [21] (fun i wr => ∃ k : Nat, k ≤ s.size ∧ i = .int .i64 k ∧ Aside0 (IsB w.heap.size w.heap.size (Lib.byteCells (noteL (s.data.toList.take k))) wr) ∧ Aside0 (Below w.heap.size w wr)) (fun i _ => s.size - (intOf i).toNat)
  case atStart => exact ⟨0, Nat.zero_le _, rfl, ⟨h0⟩, ⟨(Below.refl _ w).alloc (Nat.le_refl _) _⟩⟩
  case round =>
    obtain ⟨k, hk, rfl, ⟨hi⟩, ⟨hb⟩⟩ := hrel
    have hz := hb.size
    by_cases hlt : k < s.size
    · have HS := Lib.hid (show noteL (s.data.toList.take (k + 1)) = _ by rw [take_snoc s k hlt, noteL_snoc])
      have hle := (noteL_le (s.data.toList.take k)).2
      have hlk : (s.data.toList.take k).length ≤ k := List.length_take_le _ _
      go_wp2_with fail
      refine (push_any _ _ _ _ s[k].toNat_lt _ hi (by rw [cells_len]; omega) (by omega)).mono ?_
      rintro e w1 ⟨rfl, h1, hb1⟩
      go_wp2
      go_roundw
      case rel => exact ⟨k + 1, by omega, by go_num, ⟨by rw [HS.out]; simpa [Lib.byteCells] using h1⟩, ⟨hb.trans hb1⟩⟩
      case measure => simp [intOf]; omega
    · have e2 : s.data.toList.take k = s.data.toList := List.take_of_length_le (by simp; omega)
      rw [e2] at hi
      clear e2
      go_wp2_with fail
      refine (string _ _ _ _ hi (by omega)).mono ?_
      rintro e w2 ⟨rfl, h2, hb2⟩
      go_wp2
      go_ret2
      exact ⟨rfl, hb.trans hb2⟩
set_option maxHeartbeats 4000000 in
set_option maxRecDepth 100000 in
theorem to_mail (s : ByteArray) (hs : s.size ≤ 23456248059221) (w : World) :
    Calls Tryz.prog 158 #[.int .u8 2, .string s] w fun e w' => e = .returned (.tuple #[.string ⟨(mailL s.data.toList).toArray⟩, .int .i64 0]) ∧ Below w.heap.size w w' := by
  have h0 := newB w
  go_enter Tryz.func158, Tryz.ntmps158
  go_wp2_with fail
  refine (is_any 2 (by decide) _).mono ?_
  rintro e w1 ⟨rfl, rfl⟩
  go_wp2
  go_loopw [21] (fun i wr => ∃ k : Nat, k ≤ s.size ∧ i = .int .i64 k ∧ Aside0 (IsB w.heap.size w.heap.size (Lib.byteCells (mailL (s.data.toList.take k))) wr) ∧ Aside0 (Below w.heap.size w wr)) (fun i _ => s.size - (intOf i).toNat)
  case atStart => exact ⟨0, Nat.zero_le _, rfl, ⟨h0⟩, ⟨(Below.refl _ w).alloc (Nat.le_refl _) _⟩⟩
  case round =>
    obtain ⟨k, hk, rfl, ⟨hi⟩, ⟨hb⟩⟩ := hrel
    have hz := hb.size
    by_cases hlt : k < s.size
    · have HS := Lib.hid (show mailL (s.data.toList.take (k + 1)) = _ by rw [take_snoc s k hlt, mailL_snoc])
      have hle := (mailL_le (s.data.toList.take k)).2
      have hlk : (s.data.toList.take k).length ≤ k := List.length_take_le _ _
      go_wp2_with fail
      refine (email_any _ _ _ _ s[k].toNat_lt _ hi (by rw [cells_len]; omega) (by omega)).mono ?_
      rintro e w1 ⟨rfl, h1, hb1⟩
      go_wp2
      go_roundw
      case rel => exact ⟨k + 1, by omega, by go_num, ⟨by rw [HS.out]; simpa [Lib.byteCells] using h1⟩, ⟨hb.trans hb1⟩⟩
      case measure => simp [intOf]; omega
    · have e2 : s.data.toList.take k = s.data.toList := List.take_of_length_le (by simp; omega)
      rw [e2] at hi
      clear e2
      go_wp2_with fail
      refine (string _ _ _ _ hi (by omega)).mono ?_
      rintro e w2 ⟨rfl, h2, hb2⟩
      go_wp2
      go_ret2
      exact ⟨rfl, hb.trans hb2⟩
set_option maxHeartbeats 1000000 in
theorem to_none (c : Int) (s : ByteArray) (h0 : 0 ≤ c) (hc : ¬ (1 ≤ c ∧ c ≤ 3)) (w : World) :
    Calls Tryz.prog 158 #[.int .u8 c, .string s] w fun e w' => e = .returned (.tuple #[.string ⟨#[]⟩, .int .i64 1]) ∧ Below w.heap.size w w' := by
  go_enter Tryz.func158, Tryz.ntmps158
  go_wp2_with fail
  refine (is_any c h0 _).mono ?_
  rw [decide_eq_false hc]
  rintro e w1 ⟨rfl, rfl⟩
  go_wp2
  go_ret2
  exact ⟨rfl, Below.refl _ _⟩
theorem esc_To.calls (a0 : Int) (a1 : ByteArray) (r1 : ByteArray) (r2 : Int) (w : World) (h : esc_To.f a0 a1 = some (r1, r2)) :
    Calls Tryz.prog 158 #[.int .u8 a0, .string a1] w fun e w' => e = .returned (.tuple #[.string r1, .int .i64 r2]) ∧ Below w.heap.size w w' := by
  unfold esc_To.f at h
  by_cases h0 : 0 ≤ a0
  · rw [if_pos h0] at h
    by_cases hc : 1 ≤ a0 ∧ a0 ≤ 3
    · rw [if_pos hc] at h
      by_cases hs : a1.size ≤ 23456248059221
      · rw [if_pos hs] at h
        simp only [Option.some.injEq, Prod.mk.injEq] at h
        obtain ⟨rfl, rfl⟩ := h
        have : a0 = 1 ∨ a0 = 2 ∨ a0 = 3 := by omega
        rcases this with rfl | rfl | rfl
        · exact to_note a1 hs w
        · exact to_mail a1 hs w
        · exact to_sms a1 (by omega) w
      · rw [if_neg hs] at h; cases h
    · rw [if_neg hc] at h
      simp only [Option.some.injEq, Prod.mk.injEq] at h
      obtain ⟨rfl, rfl⟩ := h
      exact to_none a0 a1 h0 hc w
  · rw [if_neg h0] at h; cases h
end Go.Proofs.YtniibpndgcndbaaGreatDoor.Esc
namespace Go.Proofs.YtniibpndgcndbaaGreatDoor.Tpl
open Go.RowKit Go.Proofs Go.Proofs.YtniibpndgcndbaaGreatDoor.PB Go.Proofs.YtniibpndgcndbaaGreatDoor.Short Go.Proofs.YtniibpndgcndbaaGreatDoorW.PrintWords Go.Proofs.YtniibpndgcndbaaGreatDoorW.PrintLast Go.Proofs.YtniibpndgcndbaaGreatDoorW.PrintMore Vals
abbrev stopO (k : Int) : Obj := .cells #[.int .i64 k] 177 (0, 0)
def PenRet (B g c : Nat) (most : Int) (o : Except Int Pen) (w : World) (e : Ending) (w' : World) : Prop :=
  PStep g w w' ∧ match o with
  | .ok q => e = .returned .nilIface ∧ PenAt w' B g q.1 c most q.2
  | .error k => ∃ b, e = .returned (.iface 119 (.pointer (some ⟨b, 0, none⟩))) ∧ w'.heap[b]? = some (stopO k)
theorem PenRet.after {B g c : Nat} {most : Int} {o : Except Int Pen} {w w1 w' : World} {e : Ending} (h : PenRet B g c most o w1 e w') (hp : PStep g w w1) : PenRet B g c most o w e w' := ⟨hp.trans h.1, h.2⟩
set_option maxHeartbeats 1000000 in
set_option maxRecDepth 100000 in
theorem padd_any (g B : Nat) (l s : S) (c : Nat) (most left : Int) (w : World) (h : PenAt w B g l c most left) (hl : (l.length : Int) ≤ most) (hm : most ≤ 1048576) (hs : s.length ≤ 100000000) (hBw : B ≤ w.heap.size) :
    Calls Tryz.prog 159 #[.pointer (some ⟨g, 0, none⟩), .string (bs s)] w (PenRet B g c most (addP most (l, left) s) w) := by
  obtain ⟨o, ho⟩ : ∃ o, addP most (l, left) s = o := ⟨_, rfl⟩
  rw [ho]
  have HO := Aside0.mk ho
  have HP := Aside0.mk h
  have hl0 : (0 : Int) ≤ l.length := Int.natCast_nonneg _
  have hs0 : (0 : Int) ≤ s.length := Int.natCast_nonneg _
  have hs1 : (s.length : Int) ≤ 100000000 := by omega
  have hsz : ((bs s).size : Int) = s.length := by rw [bs_size]
  have m3 : w.cell? ⟨g, 3, none⟩ = some (.int .i64 most) := by obtain ⟨_, p, v, _, hk, _⟩ := h; exact (blk_cell hk 3).trans rfl
  have hlen : ∀ n, Calls Tryz.prog 185 #[.pointer (some ⟨g, 0, none⟩)] (w.drewN n) fun e w' => e = .returned (.int .i64 l.length) ∧ w' = w.drewN n := fun n => (plen_any g (w.drewN n) B l c most left (h.below (belS (Below.refl _ _)))).mono (fun e w' h => ⟨h.1, h.2.symm⟩)
  clear h ho
  go_enter Tryz.func159, Tryz.ntmps159
  go_upto_region 1 with (fail)
  go_quiet ((go_at_call 185; exact Calls.quiet_of_same (hlen _)))
  have hB : Below w.heap.size w (w.drewN nq) := belS (Below.refl _ _)
  generalize w.drewN nq = W at hB ⊢
  have HS := Aside0.mk (PStep.of_below HP.out.lt hB)
  have hPW := HP.out.below hB
  have hBW : B ≤ W.heap.size := Nat.le_trans hBw hB.size
  have hgW := hPW.lt
  clear hB hlen m3 hBw
  by_cases hgt : (s.length : Int) > most - l.length
  · have hD : decide (most - (l.length : Int) < (s.length : Int)) = true := decide_eq_true (by omega)
    rw [hD]
    have ho : Except.error 12 = o := HO.out ▸ (if_pos hgt).symm
    subst ho
    go_wp2
    go_ret
    exact ⟨HS.out.trans (PStep.of_below hgW (below_alloc (Below.refl _ _) _)), _, rfl, blk_new _ _⟩
  · have hD : decide (most - (l.length : Int) < (s.length : Int)) = false := decide_eq_false (by omega)
    rw [hD]
    have ho : Except.ok (l ++ s, left) = o := HO.out ▸ (if_neg hgt).symm
    subst ho
    have hw := pwrite_any g B l s c most left W hPW (by omega) hBW
    clear hD hgt hPW
    go_wp2_with fail
    refine hw.mono ?_
    rintro e w2 ⟨rfl, h2, h3⟩
    go_wp2
    go_ret
    exact ⟨HS.out.trans h3, rfl, h2⟩
theorem toL_le (c : Int) (l : S) : (Esc.toL c l).length ≤ 6 * l.length := by
  unfold Esc.toL
  split
  · exact (Esc.noteL_le l).2
  · split
    · exact (Esc.mailL_le l).2
    · have := Esc.smsF_le l; omega
theorem eto_any (c : Nat) (s : S) (hc : 1 ≤ c ∧ c ≤ 3) (hs : s.length ≤ 1048576) (w : World) :
    Calls Tryz.prog 158 #[.int .u8 c, .string (bs s)] w fun e w' => e = .returned (.tuple #[.string (bs (Esc.toL c s)), .int .i64 0]) ∧ Below w.heap.size w w' := by
  have he : Esc.esc_To.f (c : Int) (bs s) = some (bs (Esc.toL c s), 0) := by
    unfold Esc.esc_To.f
    rw [if_pos (by omega), if_pos (by omega), if_pos (by rw [bs_size]; omega)]
    rfl
  exact Esc.esc_To.calls c (bs s) _ _ w he
theorem PenRet.val {B g c : Nat} {most : Int} {o : Except Int Pen} {w w' : World} {e : Ending} (h : PenRet B g c most o w e w') : ∃ v, e = .returned v := by
  obtain ⟨_, h⟩ := h
  cases o with
  | error k => obtain ⟨b, he, _⟩ := h; exact ⟨_, he⟩
  | ok q => exact ⟨_, h.1⟩
abbrev ownT (c : Nat) : S → S := if c = 2 then id else Esc.toL c
theorem PenAt.cells {w : World} {B g : Nat} {l : S} {c : Nat} {most left : Int} (h : PenAt w B g l c most left) : w.cell? ⟨g, 2, none⟩ = some (.int .u8 c) ∧ w.cell? ⟨g, 4, none⟩ = some (.int .i64 left) ∧ w.frozen? ⟨g, 4, none⟩ = false := by
  obtain ⟨_, p, v, _, hk, _⟩ := h
  exact ⟨(blk_cell hk 2).trans rfl, (blk_cell hk 4).trans rfl, blk_frozen hk 4⟩
set_option maxHeartbeats 1000000 in
set_option maxRecDepth 100000 in
theorem ptext_any (g B : Nat) (l t : S) (c : Nat) (most left : Int) (w : World) (h : PenAt w B g l c most left) (hc : 1 ≤ c ∧ c ≤ 3) (hl : (l.length : Int) ≤ most) (hm : most ≤ 1048576) (ht : t.length ≤ 1048576) (hBw : B ≤ w.heap.size) :
    Calls Tryz.prog 120 #[.pointer (some ⟨g, 0, none⟩), .string (bs t)] w (PenRet B g c most (addP most (l, left) (ownT c t)) w) := by
  obtain ⟨o, ho⟩ : ∃ o, addP most (l, left) (ownT c t) = o := ⟨_, rfl⟩
  rw [ho]
  have HO := Aside0.mk ho
  have HP := Aside0.mk h
  have m2 := h.cells.1
  clear ho
  by_cases h2 : c = 2
  · subst h2
    have hw := padd_any g B l t 2 most left w h hl hm (by omega) hBw
    have ho2 : addP most (l, left) t = o := HO.out
    rw [ho2] at hw
    clear h ho2
    go_enter Tryz.func120, Tryz.ntmps120
    go_wp2_with fail
    refine hw.mono ?_
    rintro e w2 hret
    obtain ⟨v, rfl⟩ := hret.val
    go_wp2
    go_ret
    exact hret
  · have hc0 : ((c : Int) == 2) = false := by rw [beq_eq_false_iff_ne]; omega
    have ho2 : addP most (l, left) (Esc.toL c t) = o := by rw [← HO.out]; unfold ownT; rw [if_neg h2]
    have hto := eto_any c t hc ht w
    have HL := Aside0.mk (toL_le (c : Int) t)
    clear h
    go_enter Tryz.func120, Tryz.ntmps120
    go_wp2_with fail
    refine hto.mono ?_
    rintro e w1 ⟨rfl, hb⟩
    have hw := padd_any g B l (Esc.toL c t) c most left w1 (HP.out.below hb) hl hm (by have := HL.out; omega) (Nat.le_trans hBw hb.size)
    rw [ho2] at hw
    have HS := Aside0.mk (PStep.of_below HP.out.lt hb)
    clear hto hb ho2 m2
    go_wp2_with fail
    refine hw.mono ?_
    rintro e w2 hret
    obtain ⟨v, rfl⟩ := hret.val
    go_wp2
    go_ret
    exact hret.after HS.out
theorem showP_le (x : Val) (hs : x.sm) : (showP x).length ≤ 4096 := by
  unfold showP
  split
  · rename_i hk
    have hl := ((chkV_iff _ _ _ _ _).1 hk).1
    unfold showV
    split
    · rename_i h1
      unfold leafV at hl
      rw [if_pos h1] at hl
      simp only [Bool.and_eq_true, decide_eq_true_eq] at hl
      exact hl.1.1
    · split
      · split <;> decide
      · have hsm := hs.2.2
        split
        · have := Lib.itoa_length_le x.n hsm.1.1 hsm.1.2; omega
        · have h2 := hsm.2.1; have := Lib.itoa_length_le (x.i.len : Int) (by omega) (by omega); omega
  · simp
set_option maxHeartbeats 1000000 in
set_option maxRecDepth 100000 in
theorem pshow_any (g B : Nat) (l : S) (x : Val) (A3 : Option Addr) (c3 : Nat) (A4 : Option Addr) (c4 : Nat) (c : Nat) (most left : Int) (w : World) (h : PenAt w B g l c most left) (hT : GTab w) (hx : x.fit) (hR : RdV w x A3 c3 A4 c4) (hc : 1 ≤ c ∧ c ≤ 3) (hl : (l.length : Int) ≤ most) (hm : most ≤ 1048576) (hBw : B ≤ w.heap.size) :
    Calls Tryz.prog 123 #[.pointer (some ⟨g, 0, none⟩), vAgg x A3 c3 A4 c4] w (PenRet B g c most (addP most (l, left) (Esc.toL c (showP x))) w) := by
  obtain ⟨o, ho⟩ : ∃ o, addP most (l, left) (Esc.toL c (showP x)) = o := ⟨_, rfl⟩
  rw [ho]
  have HO := Aside0.mk ho
  have HP := Aside0.mk h
  have hb1 := below_alloc (Below.refl w.heap.size w) (vObj x.k x.t x.n x.i x.m A3 c3 A4 c4)
  have BK := blk_new w (vObj x.k x.t x.n x.i x.m A3 c3 A4 c4)
  have hsh : ∃ y : Int, Calls Tryz.prog 160 #[vAgg x A3 c3 A4 c4] (w.alloc (vObj x.k x.t x.n x.i x.m A3 c3 A4 c4)) fun e w' => e = .returned (.tuple #[.string (bs (showP x)), .int .i64 y]) ∧ Below (w.alloc (vObj x.k x.t x.n x.i x.m A3 c3 A4 c4)).heap.size (w.alloc (vObj x.k x.t x.n x.i x.m A3 c3 A4 c4)) w' := ⟨_, vshow_any x.k x.t x.n x.i x.m A3 c3 A4 c4 (w.alloc (vObj x.k x.t x.n x.i x.m A3 c3 A4 c4)) hx.1 (hR.1.below hb1) (hR.2.below hb1) hx.2 (hT.below hb1)⟩
  obtain ⟨y, hsh⟩ := hsh
  obtain ⟨k, t, n, i, m⟩ := x
  obtain ⟨z0, z1, z2, z3, z4, -⟩ := cells_5 BK
  have HX := Aside0.mk hx
  clear ho hT hR BK hx h
  go_enter Tryz.func123, Tryz.ntmps123
  go_wp2_with fail
  refine hsh.mono ?_
  rintro e w1 ⟨rfl, hb⟩
  have hB := below_step hb1 hb
  have HS := Aside0.mk (PStep.of_below HP.out.lt hB)
  have hP1 := HP.out.below hB
  have m2 := hP1.cells.1
  have HP1 := Aside0.mk hP1
  have hBw1 := Nat.le_trans hBw hB.size
  have hto := eto_any c (showP ⟨k, t, n, i, m⟩) hc (by have := showP_le _ HX.out.1; omega) w1
  clear hsh hb hB hb1 z0 z1 z2 z3 z4 hP1
  go_wp2_with fail
  refine hto.mono ?_
  rintro e w2 ⟨rfl, hb⟩
  have hw := padd_any g B l (Esc.toL c (showP ⟨k, t, n, i, m⟩)) c most left w2 (HP1.out.below hb) hl hm (by have h1 := showP_le _ HX.out.1; have h2 := toL_le (c : Int) (showP ⟨k, t, n, i, m⟩); omega) (Nat.le_trans hBw1 hb.size)
  rw [HO.out] at hw
  have HS2 := Aside0.mk (PStep.of_below HP1.out.lt hb)
  clear hto hb m2
  go_wp2_with fail
  refine hw.mono ?_
  rintro e w3 hret
  obtain ⟨v, rfl⟩ := hret.val
  go_wp2
  go_ret
  exact (hret.after HS2.out).after HS.out
end Go.Proofs.YtniibpndgcndbaaGreatDoor.Tpl
namespace Go.Proofs.YtniibpndgcndbaaGreatDoor.Tpl
open Go.RowKit Go.Proofs Go.Proofs.YtniibpndgcndbaaGreatDoor.PB Go.Proofs.YtniibpndgcndbaaGreatDoor.Short Go.Proofs.YtniibpndgcndbaaGreatDoorW.PrintWords Go.Proofs.YtniibpndgcndbaaGreatDoorW.PrintLast Go.Proofs.YtniibpndgcndbaaGreatDoorW.PrintMore
theorem heapN : Kd.Heap kN := Kd.heap_fix (fun _ hd => Kd.heap_iso _ (Kd.heap_pair (Kd.heap_int _) (Kd.heap_pair Kd.heap_string (Kd.heap_pair (Kd.heap_slice _ Kd.heap_string) (Kd.heap_pair (Kd.heap_slice _ hd) (Kd.heap_slice _ hd))))))
def FdN (w : World) (ok : Nat → Prop) (A : Option Addr) (c : Nat) (l : Nodes) : Prop := Kd.F kN w ok A l.len l.of ∧ l.len ≤ c
theorem Nodes.Rd.fd {w : World} {A : Option Addr} {c : Nat} {l : Nodes} (h : Nodes.Rd w A c l) : FdN w (fun k => k < w.heap.size) A c l := ⟨Kd.C_F heapN h.1, h.2⟩
theorem FdN.mono {w : World} {ok ok' : Nat → Prop} {A : Option Addr} {c : Nat} {l : Nodes} (h : FdN w ok A c l) (hk : ∀ k, ok k → ok' k) : FdN w ok' A c l := ⟨Kd.F_mono h.1 hk, h.2⟩
theorem FdN.pstep {w w1 : World} {g : Nat} {A : Option Addr} {c : Nat} {l : Nodes} (h : FdN w (Off w g) A c l) (hp : PStep g w w1) : FdN w1 (Off w1 g) A c l :=
  ⟨Kd.F_mono (Kd.F_step (Kd.F_bound h.1) (fun _ hk _ => hp.blk _ hk.2 hk.1)) (fun _ hk => hk.1.step hp hk.2), h.2⟩
theorem FdS.pstep {w w1 : World} {g : Nat} {A : Option Addr} {c : Nat} {l : List S} (h : FdS w (Off w g) A c l) (hp : PStep g w w1) : FdS w1 (Off w1 g) A c l :=
  ⟨Kd.F_mono (Kd.F_step (Kd.F_bound h.1) (fun _ hk _ => hp.blk _ hk.2 hk.1)) (fun _ hk => hk.1.step hp hk.2), h.2⟩
theorem FdV.pstep {w w1 : World} {g : Nat} {A : Option Addr} {c : Nat} {l : Vals} (h : FdV w (Off w g) A c l) (hp : PStep g w w1) : FdV w1 (Off w1 g) A c l :=
  ⟨Kd.F_mono (Kd.F_step (Kd.F_bound h.1) (fun _ hk _ => hp.blk _ hk.2 hk.1)) (fun _ hk => hk.1.step hp hk.2), h.2⟩
theorem FdN.at {w : World} {ok : Nat → Prop} {A : Option Addr} {c : Nat} {l : Nodes} (h : FdN w ok A c l) {j : Nat} {k t p a b r} (hd : l.drop j = .cons k t p a b r) :
    ∃ ad A2 c2 A3 c3 A4 c4, A = some ad ∧ w.cell? (ad.add (j * 5)) = some (.int .u8 k) ∧ w.cell? ⟨(ad.add (j * 5)).block, (ad.add (j * 5)).off + 1, none⟩ = some (.string (bs t)) ∧ w.cell? ⟨(ad.add (j * 5)).block, (ad.add (j * 5)).off + 2, none⟩ = some (.slice A2 p.length c2) ∧
      w.cell? ⟨(ad.add (j * 5)).block, (ad.add (j * 5)).off + 3, none⟩ = some (.slice A3 a.len c3) ∧ w.cell? ⟨(ad.add (j * 5)).block, (ad.add (j * 5)).off + 4, none⟩ = some (.slice A4 b.len c4) ∧ FdS w ok A2 c2 p ∧ FdN w ok A3 c3 a ∧ FdN w ok A4 c4 b := by
  obtain ⟨hl, _, hrd⟩ := Nodes.drop_step hd
  obtain ⟨ad, cs, rfl, _, hK, hc, _⟩ := Kd.F_get h.1 z37 (j : Int) (by omega) (by omega)
  rw [show l.of.getD ((j : Int)).toNat z37 = ⟨k, bs t, p.map bs, a.of, b.of⟩ from hrd] at hK
  obtain ⟨A2, c2, A3, c3, A4, c4, rfl, l2, F2, l3, F3, l4, F4⟩ := k37_openF hK
  simp only [List.length_map, Nodes.of_len] at l2 F2 l3 F3 l4 F4
  have hc' : ∀ q u, [Value.int .u8 k, .string (bs t), .slice A2 p.length c2, .slice A3 a.len c3, .slice A4 b.len c4][q]? = some u → w.cell? (ad.add (j * 5 + q)) = some u := by
    intro q u hq
    have h := hc q u (by simpa [Nodes.of_len] using hq)
    rwa [Int.toNat_natCast] at h
  refine ⟨ad, A2, c2, A3, c3, A4, c4, rfl, hc' 0 _ rfl, by rw [← add_field _ _ 1 (by omega)]; exact hc' 1 _ rfl, by rw [← add_field _ _ 2 (by omega)]; exact hc' 2 _ rfl, by rw [← add_field _ _ 3 (by omega)]; exact hc' 3 _ rfl, by rw [← add_field _ _ 4 (by omega)]; exact hc' 4 _ rfl, ⟨F2, l2⟩, ⟨F3, l3⟩, ⟨F4, l4⟩⟩
theorem PenAt.off_new {w : World} {B g : Nat} {l : S} {c : Nat} {most left : Int} (h : PenAt w B g l c most left) {k : Nat} (hk : w.heap.size ≤ k) : Off w g k := by
  have hg := h.lt
  obtain ⟨hB, p, v, hp, hb, ho, hn⟩ := h
  refine ⟨by omega, fun e => ?_⟩
  unfold bufOf at e
  rw [(blk_cell hb 1).trans rfl] at e
  have := own_lt ho k e.symm
  omega
theorem Off.below {w w1 : World} {g k : Nat} (h : Off w g k) (hg : g < w.heap.size) (hb : Below w.heap.size w w1) : Off w1 g k := ⟨h.1, by rw [bufOf_below hg hb]; exact h.2⟩
def Inv (most : Int) (st : Pen) : Prop := (st.1.length : Int) ≤ most ∧ 0 ≤ st.2 ∧ st.2 ≤ 1048576
theorem addP_inv {most : Int} {p q : Pen} {s : S} (hp : Inv most p) (h : addP most p s = .ok q) : Inv most q := by
  unfold addP at h
  split at h
  · cases h
  · cases h; exact ⟨by simp only [List.length_append]; omega, hp.2⟩
theorem fillP_inv {E F : S → S} {most : Int} (l : Nodes) : ∀ (rd : List Val) (p q : Pen), Inv most p → fillP E F most l rd p = .ok q → Inv most q := by
  induction l with
  | nil => intro rd p q hp h; cases h; exact hp
  | cons c t w a b r iha ihb ihr =>
    intro rd p q hp h
    rw [fillP_cons] at h
    cases ho : oneP E F most c t w a b rd p with
    | error e => rw [ho] at h; cases h
    | ok p' =>
      rw [ho] at h
      refine ihr rd p' q ?_ h
      unfold oneP at ho
      split at ho
      · cases ho
      have hd : Inv most (p.1, p.2 - 1) := ⟨hp.1, by simp only; omega, by have := hp.2.2; simp only; omega⟩
      split at ho
      · exact addP_inv hd ho
      split at ho
      · split at ho
        · split at ho
          · exact iha rd _ _ hd ho
          · exact ihb rd _ _ hd ho
        · split at ho
          · split at ho
            · exact eachP_keeps (P := Inv most) (fun v p q hp h => iha (v :: rd) p q hp h) _ _ _ hd ho
            · cases ho
          · exact addP_inv hd ho
      · split at ho
        · exact ihb rd _ _ hd ho
        · cases ho
theorem oneP_inv {E F : S → S} {most : Int} {c : Nat} {t : S} {w : List S} {a b : Nodes} {rd : List Val} {p q : Pen} (hp : Inv most p) (h : oneP E F most c t w a b rd p = .ok q) : Inv most q := by
  refine fillP_inv (E := E) (F := F) (Nodes.cons c t w a b .nil) rd p q hp ?_
  rw [fillP_cons, h]
  rfl
structure PenIn (w0 : World) (g c : Nat) (most : Int) (rd : List Val) (a : Option Addr) (st : Pen) (w : World) : Prop where
  pen : PenAt w w0.heap.size g st.1 c most st.2
  bel : Below w0.heap.size w0 w
  rnd : Rounds w (Off w g) a rd
  inv : Inv most st
theorem PenIn.step {w0 : World} {g c : Nat} {most : Int} {rd : List Val} {a : Option Addr} {st : Pen} {w : World} (h : PenIn w0 g c most rd a st w) {w1 : World} {st1 : Pen} (hp : PStep g w w1) (hpen : PenAt w1 w0.heap.size g st1.1 c most st1.2) (hi : Inv most st1) : PenIn w0 g c most rd a st1 w1 :=
  ⟨hpen, h.bel.trans (hp.belowP h.pen h.bel.size), h.rnd.pstep hp, hi⟩
end Go.Proofs.YtniibpndgcndbaaGreatDoor.Tpl
namespace Go.Proofs.YtniibpndgcndbaaGreatDoor.Tpl
open Go.RowKit Go.Proofs Go.Proofs.YtniibpndgcndbaaGreatDoor.PB Go.Proofs.YtniibpndgcndbaaGreatDoor.Short Go.Proofs.YtniibpndgcndbaaGreatDoorW.PrintWords Go.Proofs.YtniibpndgcndbaaGreatDoorW.PrintLast Go.Proofs.YtniibpndgcndbaaGreatDoorW.PrintMore
def FillC (w0 : World) (g c : Nat) (most : Int) (l : Nodes) : Prop :=
  ∀ (rd : List Val) (a A : Option Addr) (c0 : Nat) (st : Pen) (w : World), PenIn w0 g c most rd a st w → rd ≠ [] → (∀ x, x ∈ rd → x.fit) → FdN w (Off w g) A c0 l →
    Calls Tryz.prog 56 #[.pointer (some ⟨g, 0, none⟩), .slice A l.len c0, .pointer a] w (PenRet w0.heap.size g c most (fillP (ownT c) (Esc.toL c) most l rd st) w)
theorem fit_nth {x y : Val} {j : Nat} (h : x.fit) (hy : x.i.nth j = some y) : y.fit := ⟨sm_nth x.i h.1.2.2.2.2.2.2.1 hy, by have := cnt_nth x.i hy; have := h.2; omega⟩
abbrev nAgg (k : Nat) (t : S) (p : List S) (a b : Nodes) (A2 : Option Addr) (c2 : Nat) (A3 : Option Addr) (c3 : Nat) (A4 : Option Addr) (c4 : Nat) : Value := .agg #[.int .u8 k, .string (bs t), .slice A2 p.length c2, .slice A3 a.len c3, .slice A4 b.len c4]
abbrev nBox (k : Nat) (t : S) (p : List S) (a b : Nodes) (A2 : Option Addr) (c2 : Nat) (A3 : Option Addr) (c3 : Nat) (A4 : Option Addr) (c4 : Nat) : Obj := .cells #[.int .u8 k, .string (bs t), .slice A2 p.length c2, .slice A3 a.len c3, .slice A4 b.len c4] 37
set_option maxHeartbeats 2000000 in
set_option maxRecDepth 100000 in
theorem peach_any (w0 : World) (g c : Nat) (most : Int) (k : Nat) (t : S) (p : List S) (a b : Nodes) (hC : FillC w0 g c most a) (A2 : Option Addr) (c2 : Nat) (A3 : Option Addr) (c3 : Nat) (A4 : Option Addr) (c4 : Nat) (x : Val) (B3 : Option Addr) (d3 : Nat) (B4 : Option Addr) (d4 : Nat) (rd : List Val) (ar : Option Addr) (st : Pen) (w : World)
    (hI : PenIn w0 g c most rd ar st w) (hf : ∀ x, x ∈ rd → x.fit) (hx : x.fit) (hA : FdN w (Off w g) A3 c3 a) (hX : RV w (Off w g) x B3 d3 B4 d4) :
    Calls Tryz.prog 122 #[.pointer (some ⟨g, 0, none⟩), nAgg k t p a b A2 c2 A3 c3 A4 c4, vAgg x B3 d3 B4 d4, .pointer ar] w
      (PenRet w0.heap.size g c most (if x.k = 4 then eachP (fun y st => fillP (ownT c) (Esc.toL c) most a (y :: rd) st) x.i st else .error 7) w) := by
  obtain ⟨o, ho⟩ : ∃ o, (if x.k = 4 then eachP (fun y st => fillP (ownT c) (Esc.toL c) most a (y :: rd) st) x.i st else .error 7) = o := ⟨_, rfl⟩
  rw [ho]
  obtain ⟨vk, vt, vn, vi, vm⟩ := x
  have HO := Aside0.mk ho
  have HX0 := Aside0.mk hx
  have hlen : vi.len ≤ 1048576 := hx.1.2.2.2.1
  have hb1 : Below w.heap.size w ((w.alloc (nBox k t p a b A2 c2 A3 c3 A4 c4)).alloc (vObj vk vt vn vi vm B3 d3 B4 d4)) := below_alloc (below_alloc (Below.refl _ _) _) _
  have BK1 := blk_alloc (w := w.alloc (nBox k t p a b A2 c2 A3 c3 A4 c4)) (blk_new w (nBox k t p a b A2 c2 A3 c3 A4 c4)) (vObj vk vt vn vi vm B3 d3 B4 d4)
  have BK2 := blk_new (w.alloc (nBox k t p a b A2 c2 A3 c3 A4 c4)) (vObj vk vt vn vi vm B3 d3 B4 d4)
  rw [World.size_alloc] at BK2
  have hS := PStep.of_below hI.pen.lt hb1
  have HI := Aside0.mk (hI.step hS (hI.pen.below hb1) hI.inv)
  have HA := Aside0.mk (hA.pstep hS)
  have HX := Aside0.mk (hX.pstep hS)
  have HS := Aside0.mk hS
  have HF := Aside0.mk hf
  have hgl := hI.pen.lt
  have HO1 : Aside0 (Off ((w.alloc (nBox k t p a b A2 c2 A3 c3 A4 c4)).alloc (vObj vk vt vn vi vm B3 d3 B4 d4)) g w.heap.size) := ⟨(hI.pen.off_new (Nat.le_refl _)).below hgl hb1⟩
  have HO2 : Aside0 (Off ((w.alloc (nBox k t p a b A2 c2 A3 c3 A4 c4)).alloc (vObj vk vt vn vi vm B3 d3 B4 d4)) g (w.heap.size + 1)) := ⟨(hI.pen.off_new (Nat.le_succ _)).below hgl hb1⟩
  clear ho hI hS hA hX hf hb1 hgl hx
  go_enter Tryz.func122, Tryz.ntmps122
  go_upto_region 1 with (fail)
  generalize ((w.alloc (nBox k t p a b A2 c2 A3 c3 A4 c4)).alloc (vObj vk vt vn vi vm B3 d3 B4 d4)) = W at BK1 BK2 HI HA HX HS HO1 HO2 ⊢
  obtain ⟨b1, hb1⟩ : ∃ b, w.heap.size = b := ⟨_, rfl⟩
  rw [hb1] at BK1 BK2 HO1 HO2 ⊢
  clear hb1
  obtain ⟨z0, z1, z2, z3, z4, f0, f1, f2, f3, f4⟩ := cells_5 BK1
  obtain ⟨y0, y1, y2, y3, y4, q0, q1, q2, q3, q4⟩ := cells_5 BK2
  have HK1 := Aside0.mk BK1
  have HK2 := Aside0.mk BK2
  clear BK1 BK2
  by_cases h4 : vk = 4
  · subst h4
    have HO' : Aside0 (eachP (fun y st => fillP (ownT c) (Esc.toL c) most a (y :: rd) st) vi st = o) := ⟨by rw [← HO.out]; rfl⟩
    clear HO
    go_wp2
    go_loopw [21] (fun v wr => ∃ (j : Nat) (st : Pen), v = .int .i64 j ∧ j ≤ vi.len ∧ Aside0 (eachP (fun y st => fillP (ownT c) (Esc.toL c) most a (y :: rd) st) (vi.drop j) st = o) ∧ Aside0 (PenIn w0 g c most rd ar st wr) ∧ Aside0 (PStep g W wr)) (fun v _ => vi.len - (intOf v).toNat)
    case atStart => exact ⟨0, st, rfl, Nat.zero_le _, ⟨by rw [Vals.drop_zero]; exact HO'.out⟩, HI, ⟨PStep.refl _ _⟩⟩
    case round =>
      clear z0 z1 z2 z3 z4 f0 f1 f2 f3 f4 y0 y1 y2 y3 y4 q0 q1 q2 q3 q4 HI HO'
      obtain ⟨j, st, rfl, hj, HO, HI, HW⟩ := hrel
      cases hd : vi.drop j with
      | nil =>
        have h1 := Vals.drop_nil hd
        obtain rfl : j = vi.len := by omega
        have ho : Except.ok st = o := by rw [← HO.out, hd]; rfl
        clear hd
        subst ho
        go_wp2
        go_ret
        exact ⟨HS.out.trans HW.out, rfl, HI.out.pen⟩
      | cons k' t' n' i' m' r' =>
        obtain ⟨ad, A3', c3', A4', c4', rfl, y0, y1, y2, y3, y4, hF3, hF4⟩ := (HX.out.pstep HW.out).1.at hd
        obtain ⟨h1, h2, _⟩ := Vals.drop_step hd
        have n3 : wr.cell? ⟨b1, 3, none⟩ = some (.slice A3 a.len c3) := (blk_cell (HW.out.blkOf HK1.out HO1.out) 3).trans rfl
        have hb2 : Below wr.heap.size wr ((wr.alloc (vBox k' t' n' A3' i'.len c3' A4' m'.length c4')).alloc (rObj ⟨k', t', n', i', m'⟩ A3' c3' A4' c4' ar)) := below_alloc (below_alloc (Below.refl _ _) _) _
        have BKr := blk_new (wr.alloc (vBox k' t' n' A3' i'.len c3' A4' m'.length c4')) (rObj ⟨k', t', n', i', m'⟩ A3' c3' A4' c4' ar)
        rw [World.size_alloc] at BKr
        have hS2 := PStep.of_below HI.out.pen.lt hb2
        have hRV : RV wr (Off wr g) ⟨k', t', n', i', m'⟩ A3' c3' A4' c4' := ⟨hF3, hF4⟩
        have hI2 : PenIn w0 g c most (⟨k', t', n', i', m'⟩ :: rd) (some ⟨wr.heap.size + 1, 0, none⟩) st ((wr.alloc (vBox k' t' n' A3' i'.len c3' A4' m'.length c4')).alloc (rObj ⟨k', t', n', i', m'⟩ A3' c3' A4' c4' ar)) := by
          have h := HI.out.step hS2 (HI.out.pen.below hb2) HI.out.inv
          exact ⟨h.pen, h.bel, ⟨_, A3', c3', A4', c4', ar, rfl, (HI.out.pen.off_new (Nat.le_succ _)).below HI.out.pen.lt hb2, BKr, hRV.pstep hS2, h.rnd⟩, h.inv⟩
        have hfy : (⟨k', t', n', i', m'⟩ : Val).fit := fit_nth HX0.out (Vals.nth_drop vi hd)
        have hcall := hC (⟨k', t', n', i', m'⟩ :: rd) (some ⟨wr.heap.size + 1, 0, none⟩) A3 c3 st _ hI2 (by simp) (fun z hz => by rcases List.mem_cons.1 hz with h | h; exact h ▸ hfy; exact HF.out z h) ((HA.out.pstep HW.out).pstep hS2)
        have HS2 := Aside0.mk (HS.out.trans (HW.out.trans hS2))
        have HW2 := Aside0.mk (HW.out.trans hS2)
        have HS3 := Aside0.mk hS2
        have HO2 : Aside0 (thenE (fillP (ownT c) (Esc.toL c) most a (⟨k', t', n', i', m'⟩ :: rd) st) (eachP (fun y st => fillP (ownT c) (Esc.toL c) most a (y :: rd) st) (vi.drop (j + 1))) = o) := ⟨by rw [← HO.out, hd, h2]; rfl⟩
        have BKn := blk_new wr (vBox k' t' n' A3' i'.len c3' A4' m'.length c4')
        have n3' : (wr.alloc (vBox k' t' n' A3' i'.len c3' A4' m'.length c4')).cell? ⟨b1, 3, none⟩ = some (.slice A3 a.len c3) := pw_cell_below (below_alloc (Below.refl _ _) _) n3
        have hsz : (wr.alloc (vBox k' t' n' A3' i'.len c3' A4' m'.length c4')).heap.size = wr.heap.size + 1 := by rw [World.size_alloc]
        clear hd h2 hF3 hF4 hb2 BKr hS2 hRV hI2 hfy n3
        go_upto_region 6 with (fail)
        clear y0 y1 y2 y3 y4
        generalize wr.alloc (vBox k' t' n' A3' i'.len c3' A4' m'.length c4') = W1 at hcall HS2 HW2 HS3 BKn n3' hsz ⊢
        obtain ⟨gx, hgx⟩ : ∃ g, wr.heap.size = g := ⟨_, rfl⟩
        rw [hgx] at BKn hcall hsz ⊢
        clear hgx
        obtain ⟨y0, y1, y2, y3, y4, -⟩ := cells_5 BKn
        clear BKn
        go_wp2_with fail
        with_reducible refine hcall.mono ?_
        rintro e w2 hret
        cases h1 : fillP (ownT c) (Esc.toL c) most a (⟨k', t', n', i', m'⟩ :: rd) st with
        | error er =>
          rw [h1] at hret
          obtain ⟨hp, bk, rfl, hk⟩ := hret
          have ho : Except.error er = o := by rw [← HO2.out, h1]; rfl
          subst ho
          go_wp2
          go_ret
          exact ⟨HS2.out.trans hp, bk, rfl, hk⟩
        | ok st2 =>
          rw [h1] at hret
          obtain ⟨hp, rfl, hpen⟩ := hret
          have HO3 : Aside0 (eachP (fun y st => fillP (ownT c) (Esc.toL c) most a (y :: rd) st) (vi.drop (j + 1)) st2 = o) := ⟨by rw [← HO2.out, h1]; rfl⟩
          have HI3 : Aside0 (PenIn w0 g c most rd ar st2 w2) := ⟨HI.out.step (HS3.out.trans hp) hpen (fillP_inv a _ _ _ HI.out.inv h1)⟩
          have HW3 := Aside0.mk (HW2.out.trans hp)
          clear hp hpen hcall h1
          go_wp2_with fail
          go_roundw
          case rel => exact ⟨j + 1, st2, by simp, by omega, HO3, HI3, HW3⟩
          case measure => simp [intOf]; omega
  · have ho : Except.error 7 = o := by rw [← HO.out, if_neg h4]
    subst ho
    have e4 : ((vk : Int) == 4) = false := by rw [beq_eq_false_iff_ne]; omega
    go_wp2
    go_ret
    exact ⟨HS.out.trans (PStep.of_below HI.out.pen.lt (below_alloc (Below.refl _ _) _)), _, rfl, blk_new _ _⟩
end Go.Proofs.YtniibpndgcndbaaGreatDoor.Tpl
namespace Go.Proofs.YtniibpndgcndbaaGreatDoor.Tpl
open Go.RowKit Go.Proofs Go.Proofs.YtniibpndgcndbaaGreatDoor.PB Go.Proofs.YtniibpndgcndbaaGreatDoor.Short Go.Proofs.YtniibpndgcndbaaGreatDoorW.PrintWords Go.Proofs.YtniibpndgcndbaaGreatDoorW.PrintLast Go.Proofs.YtniibpndgcndbaaGreatDoorW.PrintMore
def OneC (w0 : World) (g c : Nat) (most : Int) (k : Nat) (t : S) (p : List S) (a b : Nodes) : Prop :=
  ∀ (rd : List Val) (ar A2 : Option Addr) (c2 : Nat) (A3 : Option Addr) (c3 : Nat) (A4 : Option Addr) (c4 : Nat) (st : Pen) (w : World), PenIn w0 g c most rd ar st w → rd ≠ [] → (∀ x, x ∈ rd → x.fit) → FdS w (Off w g) A2 c2 p → FdN w (Off w g) A3 c3 a → FdN w (Off w g) A4 c4 b →
    Calls Tryz.prog 81 #[.pointer (some ⟨g, 0, none⟩), nAgg k t p a b A2 c2 A3 c3 A4 c4, .pointer ar] w (PenRet w0.heap.size g c most (oneP (ownT c) (Esc.toL c) most k t p a b rd st) w)
set_option maxHeartbeats 2000000 in
set_option maxRecDepth 100000 in
theorem pfill_of (w0 : World) (g c : Nat) (most : Int) (l : Nodes) (hl : l.len ≤ 1048576) (hO : ∀ j k t p a b r, l.drop j = .cons k t p a b r → OneC w0 g c most k t p a b) : FillC w0 g c most l := by
  intro rd ar A c0 st w hI hne hf hA
  obtain ⟨o, ho⟩ : ∃ o, fillP (ownT c) (Esc.toL c) most l rd st = o := ⟨_, rfl⟩
  rw [ho]
  have HO := Aside0.mk ho
  have HC := Aside0.mk hO
  have HI := Aside0.mk hI
  have HF := Aside0.mk hf
  have HA := Aside0.mk hA
  clear ho hO hI hf hA
  go_enter Tryz.func56, Tryz.ntmps56
  go_wp2
  go_loopw [12] (fun v wr => ∃ (j : Nat) (st : Pen), v = .int .i64 j ∧ j ≤ l.len ∧ Aside0 (fillP (ownT c) (Esc.toL c) most (l.drop j) rd st = o) ∧ Aside0 (PenIn w0 g c most rd ar st wr) ∧ Aside0 (PStep g w wr)) (fun v _ => l.len - (intOf v).toNat)
  case atStart => exact ⟨0, st, rfl, Nat.zero_le _, ⟨by rw [Nodes.drop_zero]; exact HO.out⟩, HI, ⟨PStep.refl _ _⟩⟩
  case round =>
    clear HI HO
    obtain ⟨j, st, rfl, hj, HO, HI, HW⟩ := hrel
    cases hd : l.drop j with
    | nil =>
      have h1 := Nodes.drop_nil hd
      obtain rfl : j = l.len := by omega
      have ho : Except.ok st = o := by rw [← HO.out, hd]; rfl
      clear hd
      subst ho
      go_wp2
      go_ret
      exact ⟨HW.out, rfl, HI.out.pen⟩
    | cons k t p a b r =>
      obtain ⟨ad, A2, c2, A3, c3, A4, c4, rfl, y0, y1, y2, y3, y4, hF2, hF3, hF4⟩ := (HA.out.pstep HW.out).at hd
      obtain ⟨h1, h2, _⟩ := Nodes.drop_step hd
      have hb := below_alloc (Below.refl wr.heap.size wr) (nBox k t p a b A2 c2 A3 c3 A4 c4)
      have hS := PStep.of_below HI.out.pen.lt hb
      have hcall := HC.out j k t p a b r hd rd ar A2 c2 A3 c3 A4 c4 st _ (HI.out.step hS (HI.out.pen.below hb) HI.out.inv) hne HF.out (hF2.pstep hS) (hF3.pstep hS) (hF4.pstep hS)
      have HO2 : Aside0 (thenE (oneP (ownT c) (Esc.toL c) most k t p a b rd st) (fillP (ownT c) (Esc.toL c) most (l.drop (j + 1)) rd) = o) := ⟨by rw [← HO.out, hd, h2, fillP_cons]⟩
      have BKn := blk_new wr (nBox k t p a b A2 c2 A3 c3 A4 c4)
      have HS := Aside0.mk hS
      clear hd h2 hF2 hF3 hF4 hS hb
      go_upto_region 4 with (fail)
      clear y0 y1 y2 y3 y4
      generalize wr.alloc (nBox k t p a b A2 c2 A3 c3 A4 c4) = W1 at hcall HS BKn ⊢
      obtain ⟨y0, y1, y2, y3, y4, -⟩ := cells_5 BKn
      clear BKn
      go_wp2_with fail
      with_reducible refine hcall.mono ?_
      rintro e w2 hret
      cases h1 : oneP (ownT c) (Esc.toL c) most k t p a b rd st with
      | error er =>
        rw [h1] at hret
        obtain ⟨hp, bk, rfl, hk⟩ := hret
        have ho : Except.error er = o := by rw [← HO2.out, h1]; rfl
        subst ho
        go_wp2
        go_ret
        exact ⟨HW.out.trans (HS.out.trans hp), bk, rfl, hk⟩
      | ok st2 =>
        rw [h1] at hret
        obtain ⟨hp, rfl, hpen⟩ := hret
        have HO3 : Aside0 (fillP (ownT c) (Esc.toL c) most (l.drop (j + 1)) rd st2 = o) := ⟨by rw [← HO2.out, h1]; rfl⟩
        have HI3 : Aside0 (PenIn w0 g c most rd ar st2 w2) := ⟨HI.out.step (HS.out.trans hp) hpen (oneP_inv HI.out.inv h1)⟩
        have HW3 := Aside0.mk (HW.out.trans (HS.out.trans hp))
        clear hp hpen hcall h1
        go_wp2_with fail
        go_roundw
        case rel => exact ⟨j + 1, st2, by simp, by omega, HO3, HI3, HW3⟩
        case measure => simp [intOf]; omega
end Go.Proofs.YtniibpndgcndbaaGreatDoor.Tpl
namespace Go.Proofs.YtniibpndgcndbaaGreatDoor.Tpl
open Go.RowKit Go.Proofs Go.Proofs.YtniibpndgcndbaaGreatDoor.PB Go.Proofs.YtniibpndgcndbaaGreatDoor.Short Go.Proofs.YtniibpndgcndbaaGreatDoorW.PrintWords Go.Proofs.YtniibpndgcndbaaGreatDoorW.PrintLast Go.Proofs.YtniibpndgcndbaaGreatDoorW.PrintMore
theorem pstep_dec {w : World} {g : Nat} {cs : Array Value} {t : TypeId} (hk : w.heap[g]? = some (.cells cs t (0, 0))) (n : Nat) (hn : n ≠ 1) (v : Value) : PStep g w (w.setCell ⟨g, n, none⟩ v) := by
  refine ⟨rfl, rfl, rfl, by simp [World.setCell], fun k _ ho => Below.heap_setCell _ _ _ _ ho.1, .inl ?_⟩
  unfold bufOf
  rw [blk_cell hk 1]
  by_cases h : n < cs.size
  · rw [blk_cell (blk_put hk n v rfl) 1]
    congr 1
    simp [Array.getElem?_setIfInBounds_ne hn]
  · rw [blk_cell (blk_put hk n v rfl) 1]
    congr 1
    simp [Array.getElem?_setIfInBounds_ne hn]
theorem PenAt.dec {w : World} {B g : Nat} {l : S} {c : Nat} {most left : Int} (h : PenAt w B g l c most left) (n : Int) : PenAt (w.setCell ⟨g, 4, none⟩ (.int .i64 n)) B g l c most n ∧ PStep g w (w.setCell ⟨g, 4, none⟩ (.int .i64 n)) := by
  obtain ⟨hB, p, v, hp, hk, ho, hn⟩ := h
  have hne := own_neB ho hk (by decide)
  exact ⟨⟨hB, p, v, hp, blk_put hk 4 _ rfl, own_other ho (row := some g) ⟨rfl, rfl, rfl, by simp [World.setCell], fun k _ hk => Below.heap_setCell _ _ _ _ (fun e => hk (by simp [e]))⟩ (.inr hne), hn⟩, pstep_dec hk 4 (by decide) _⟩
theorem ResV.fit {p : List S} {rd : List Val} {ok : Nat → Prop} {w' : World} {x : Val} {k : Int} {E3 : Option Addr} {f3 : Nat} {E4 : Option Addr} {f4 : Nat} (h : ResV (meansP p rd) ok w' x k E3 f3 E4 f4) (hf : ∀ x, x ∈ rd → x.fit) : x.fit := by
  obtain ⟨_, h⟩ := h
  cases hm : meansP p rd with
  | error e => rw [hm] at h; obtain ⟨_, rfl, _⟩ := h; exact ⟨⟨by decide, by decide, ⟨by decide, by decide⟩, by decide, by decide, by simp [Val.zero], trivial, trivial⟩, by decide⟩
  | ok y => rw [hm] at h; obtain ⟨rfl, _⟩ := h; exact fit_of (means_ok (fun v hv => (hf v hv).1) hm)
set_option maxHeartbeats 2000000 in
set_option maxRecDepth 100000 in
theorem pone_any (w0 : World) (g c : Nat) (most : Int) (k : Nat) (t : S) (p : List S) (a b : Nodes) (hG : GTab w0) (hc : 1 ≤ c ∧ c ≤ 3) (hm : most ≤ 1048576) (ht : t.length ≤ 1048576) (hp : p.length ≤ 1048576) (hCa : FillC w0 g c most a) (hCb : FillC w0 g c most b) : OneC w0 g c most k t p a b := by
  intro rd ar A2 c2 A3 c3 A4 c4 st w hI hne hf h2 h3 h4
  obtain ⟨o, ho⟩ : ∃ o, oneP (ownT c) (Esc.toL c) most k t p a b rd st = o := ⟨_, rfl⟩
  rw [ho]
  obtain ⟨sl, sn⟩ := st
  have HO := Aside0.mk ho
  have HCa := Aside0.mk hCa
  have HCb := Aside0.mk hCb
  have HG := Aside0.mk hG
  have HF := Aside0.mk hf
  have hin : 0 ≤ sn ∧ sn ≤ 1048576 := hI.inv.2
  have hb1 := below_alloc (Below.refl w.heap.size w) (nBox k t p a b A2 c2 A3 c3 A4 c4)
  have BK1 := blk_new w (nBox k t p a b A2 c2 A3 c3 A4 c4)
  have hS1 := PStep.of_below hI.pen.lt hb1
  have hI1 := hI.step hS1 (hI.pen.below hb1) hI.inv
  have hO1 : Off (w.alloc (nBox k t p a b A2 c2 A3 c3 A4 c4)) g w.heap.size := (hI.pen.off_new (Nat.le_refl _)).below hI.pen.lt hb1
  have h2' := h2.pstep hS1
  have h3' := h3.pstep hS1
  have h4' := h4.pstep hS1
  have m4 := hI1.pen.cells.2.1
  have m4f := hI1.pen.cells.2.2
  have HS1 := Aside0.mk hS1
  have HI1 := Aside0.mk hI1
  have HO1 := Aside0.mk hO1
  have H2 := Aside0.mk h2'
  have H3 := Aside0.mk h3'
  have H4 := Aside0.mk h4'
  have HK1 := Aside0.mk BK1
  clear ho hCa hCb hG hf hI h2 h3 h4 hb1 BK1 hS1 hI1 hO1 h2' h3' h4'
  go_enter Tryz.func81, Tryz.ntmps81
  go_upto_region 1 with (fail)
  generalize w.alloc (nBox k t p a b A2 c2 A3 c3 A4 c4) = W at m4 m4f HS1 HI1 HO1 H2 H3 H4 HK1 ⊢
  obtain ⟨b1, hb1⟩ : ∃ g, w.heap.size = g := ⟨_, rfl⟩
  rw [hb1] at HO1 HK1 ⊢
  clear hb1
  simp only at m4
  go_upto_region 2 with (fail)
  have hS2 := (HI1.out.pen.dec (sn - 1)).2
  have hP2 := (HI1.out.pen.dec (sn - 1)).1
  have HS2 := Aside0.mk (HS1.out.trans hS2)
  have h2' := H2.out.pstep hS2
  have h3' := H3.out.pstep hS2
  have h4' := H4.out.pstep hS2
  have hR2 := HI1.out.rnd.pstep hS2
  have hB2 := HI1.out.bel.trans (hS2.belowP HI1.out.pen HI1.out.bel.size)
  have K2 := hS2.blkOf HK1.out HO1.out
  have hO2 := HO1.out.step hS2 (blk_lt HK1.out)
  have hsl : (sl.length : Int) ≤ most := HI1.out.inv.1
  clear m4 m4f HS1 HI1 HO1 H2 H3 H4 HK1 hS2
  generalize W.setCell ⟨g, 4, none⟩ (.int .i64 (sn - 1)) = W2 at hP2 HS2 h2' h3' h4' hR2 hB2 K2 hO2 ⊢
  have m4 := hP2.cells.2.1
  have HP2 := Aside0.mk hP2
  have H2 := Aside0.mk h2'
  have H3 := Aside0.mk h3'
  have H4 := Aside0.mk h4'
  have HR2 := Aside0.mk hR2
  have HB2 := Aside0.mk hB2
  have HO2 := Aside0.mk hO2
  have HK2 := Aside0.mk K2
  obtain ⟨y0, y1, y2, y3, y4, -⟩ := cells_5 K2
  clear hP2 h2' h3' h4' hR2 hB2 K2 hO2
  by_cases hneg : sn - 1 < 0
  · have hD : decide (sn - 1 < 0) = true := decide_eq_true hneg
    have ho : Except.error 12 = o := by rw [← HO.out]; unfold oneP; rw [if_pos hneg]
    subst ho
    go_wp2
    go_ret
    exact ⟨HS2.out.trans (PStep.of_below HP2.out.lt (below_alloc (Below.refl _ _) _)), _, rfl, blk_new _ _⟩
  have hD : decide (sn - 1 < 0) = false := decide_eq_false hneg
  by_cases hk1 : k = 1
  · have e1 : ((k : Int) == 1) = true := by rw [beq_iff_eq]; omega
    have hw := ptext_any g w0.heap.size sl t c most (sn - 1) W2 HP2.out hc hsl hm ht HB2.out.size
    have ho : addP most (sl, sn - 1) (ownT c t) = o := by rw [← HO.out]; unfold oneP; rw [if_neg hneg, if_pos hk1]
    rw [ho] at hw
    clear ho hneg hk1
    go_wp2_with fail
    refine hw.mono ?_
    rintro e w2 hret
    obtain ⟨v, rfl⟩ := hret.val
    go_wp2
    go_ret
    exact hret.after HS2.out
  have e1 : ((k : Int) == 1) = false := by rw [beq_eq_false_iff_ne]; omega
  have hfind := rfind_any ar rd (Off W2 g) A2 c2 p W2 hne HR2.out HF.out H2.out.rd hp
  have HO3 : Aside0 ((match meansP p rd with
    | .ok v => if k = 3 then (if holdsP v = true then fillP (ownT c) (Esc.toL c) most a rd (sl, sn - 1) else fillP (ownT c) (Esc.toL c) most b rd (sl, sn - 1))
      else if k = 5 then (if v.k = 4 then eachP (fun x st => fillP (ownT c) (Esc.toL c) most a (x :: rd) st) v.i (sl, sn - 1) else .error 7)
      else addP most (sl, sn - 1) (Esc.toL c (showP v))
    | .error e => if k = 3 then fillP (ownT c) (Esc.toL c) most b rd (sl, sn - 1) else .error e) = o) := ⟨by rw [← HO.out]; unfold oneP; rw [if_neg hneg, if_neg hk1]; rfl⟩
  have hi3 : 0 ≤ sn - 1 ∧ sn - 1 ≤ 1048576 := by omega
  clear HO hneg hk1
  go_wp2_with fail
  refine hfind.mono ?_
  rintro e w3 hret
  obtain ⟨hb3, v, kk, E3, f3, E4, f4, rfl, hres⟩ := hret.uni
  have hvf := hres.fit HF.out
  have hb4 := below_alloc (Below.refl w3.heap.size w3) (vObj v.k v.t v.n v.i v.m E3 f3 E4 f4)
  have BK4 := blk_new w3 (vObj v.k v.t v.n v.i v.m E3 f3 E4 f4)
  have hold : ∃ y : Int, Calls Tryz.prog 121 #[vAgg v E3 f3 E4 f4] (w3.alloc (vObj v.k v.t v.n v.i v.m E3 f3 E4 f4)) fun e w' => e = .returned (.tuple #[.bool (holdsP v), .int .i64 y]) ∧ Below (w3.alloc (vObj v.k v.t v.n v.i v.m E3 f3 E4 f4)).heap.size (w3.alloc (vObj v.k v.t v.n v.i v.m E3 f3 E4 f4)) w' := ⟨_, vholds_any v.k v.t v.n v.i v.m E3 f3 E4 f4 _ hvf.1 (hres.1.rd.1.below hb4) (RdS.below hres.1.rd.2 hb4) hvf.2⟩
  obtain ⟨yy, hold⟩ := hold
  have HRes := Aside0.mk hres
  have HB3 := Aside0.mk hb3
  have HB4 := Aside0.mk hb4
  have HVF := Aside0.mk hvf
  clear hfind hret hres hb3 hb4 y0 y1 y2 y3 y4 m4 hvf
  go_upto_region 7 with (fail)
  generalize w3.alloc (vObj v.k v.t v.n v.i v.m E3 f3 E4 f4) = W4 at BK4 hold HB4 ⊢
  obtain ⟨bx, hbx⟩ : ∃ g, w3.heap.size = g := ⟨_, rfl⟩
  rw [hbx] at BK4 ⊢
  clear hbx
  obtain ⟨x0, x1, x2, x3, x4, -⟩ := cells_5 BK4
  have HK4 := Aside0.mk BK4
  clear BK4
  go_wp2_with fail
  with_reducible refine hold.mono ?_
  rintro e w5 ⟨rfl, hb5⟩
  have hb := below_step HB3.out (below_step HB4.out hb5)
  have hS := PStep.of_below HP2.out.lt hb
  have HS5 := Aside0.mk (HS2.out.trans hS)
  have HI5 : Aside0 (PenIn w0 g c most rd ar (sl, sn - 1) w5) := ⟨⟨HP2.out.below hb, HB2.out.trans (hS.belowP HP2.out HB2.out.size), HR2.out.pstep hS, hsl, hi3⟩⟩
  have HV5 : Aside0 (RV w5 (Off w5 g) v E3 f3 E4 f4) := ⟨(HRes.out.1.below (below_step HB4.out hb5)).mono (fun q hq => hq.elim (fun h => h.below HP2.out.lt hb) (fun h => (HP2.out.off_new h).below HP2.out.lt hb))⟩
  have H3' := Aside0.mk (H3.out.pstep hS)
  have H4' := Aside0.mk (H4.out.pstep hS)
  obtain ⟨y0, y1, y2, y3, y4, -⟩ := cells_5 (blk_below HK2.out hb)
  have K5 := blk_below HK4.out hb5
  clear x0 x1 x2 x3 x4 HK4 hold hb hb5 hS HB3 HB4 H3 H4
  obtain ⟨x0, x1, x2, x3, x4, -⟩ := cells_5 K5
  clear K5
  cases hmm : meansP p rd with
  | error j =>
    have hj := means_err hmm
    have hz := HRes.out.2
    rw [hmm] at hz
    obtain ⟨rfl, hv0, -⟩ := hz
    have HO4 : Aside0 ((if k = 3 then fillP (ownT c) (Esc.toL c) most b rd (sl, sn - 1) else .error kk) = o) := ⟨by rw [← HO3.out, hmm]⟩
    have ek : (kk == 0) = false := by rw [beq_eq_false_iff_ne]; omega
    clear hmm HO3 HRes hv0
    by_cases hk3 : k = 3
    · have e3 : ((k : Int) == 3) = true := by rw [beq_iff_eq]; omega
      have hw := HCb.out rd ar A4 c4 (sl, sn - 1) w5 HI5.out hne HF.out H4'.out
      have ho : fillP (ownT c) (Esc.toL c) most b rd (sl, sn - 1) = o := by rw [← HO4.out, if_pos hk3]
      rw [ho] at hw
      clear ho hk3
      go_wp2_with fail
      with_reducible refine hw.mono ?_
      rintro e w6 hret
      obtain ⟨v6, rfl⟩ := hret.val
      go_wp2
      go_ret
      exact hret.after HS5.out
    · have e3 : ((k : Int) == 3) = false := by rw [beq_eq_false_iff_ne]; omega
      have ho : Except.error kk = o := by rw [← HO4.out, if_neg hk3]
      subst ho
      clear hk3
      go_wp2
      go_ret
      exact ⟨HS5.out.trans (PStep.of_below HI5.out.pen.lt (below_alloc (Below.refl _ _) _)), _, rfl, blk_new _ _⟩
  | ok y =>
    have hz := HRes.out.2
    rw [hmm] at hz
    obtain ⟨rfl, rfl⟩ := hz
    have HO4 : Aside0 ((if k = 3 then (if holdsP v = true then fillP (ownT c) (Esc.toL c) most a rd (sl, sn - 1) else fillP (ownT c) (Esc.toL c) most b rd (sl, sn - 1)) else if k = 5 then (if v.k = 4 then eachP (fun x st => fillP (ownT c) (Esc.toL c) most a (x :: rd) st) v.i (sl, sn - 1) else .error 7) else addP most (sl, sn - 1) (Esc.toL c (showP v))) = o) := ⟨by rw [← HO3.out, hmm]⟩
    clear hmm HO3 HRes
    by_cases hk3 : k = 3
    · have e3 : ((k : Int) == 3) = true := by rw [beq_iff_eq]; omega
      cases hh : holdsP v with
      | true =>
        have hw := HCa.out rd ar A3 c3 (sl, sn - 1) w5 HI5.out hne HF.out H3'.out
        have ho : fillP (ownT c) (Esc.toL c) most a rd (sl, sn - 1) = o := by rw [← HO4.out, if_pos hk3, if_pos hh]
        rw [ho] at hw
        clear ho hk3 hh
        go_wp2_with fail
        with_reducible refine hw.mono ?_
        rintro e w6 hret
        obtain ⟨v6, rfl⟩ := hret.val
        go_wp2
        go_ret
        exact hret.after HS5.out
      | false =>
        have hw := HCb.out rd ar A4 c4 (sl, sn - 1) w5 HI5.out hne HF.out H4'.out
        have ho : fillP (ownT c) (Esc.toL c) most b rd (sl, sn - 1) = o := by rw [← HO4.out, if_pos hk3, if_neg (by rw [hh]; decide)]
        rw [ho] at hw
        clear ho hk3 hh
        go_wp2_with fail
        with_reducible refine hw.mono ?_
        rintro e w6 hret
        obtain ⟨v6, rfl⟩ := hret.val
        go_wp2
        go_ret
        exact hret.after HS5.out
    · have e3 : ((k : Int) == 3) = false := by rw [beq_eq_false_iff_ne]; omega
      generalize holdsP v = hh
      by_cases hk5 : k = 5
      · have e5 : ((k : Int) == 5) = true := by rw [beq_iff_eq]; omega
        have hw := peach_any w0 g c most k t p a b HCa.out A2 c2 A3 c3 A4 c4 v E3 f3 E4 f4 rd ar (sl, sn - 1) w5 HI5.out HF.out HVF.out H3'.out HV5.out
        have ho : (if v.k = 4 then eachP (fun x st => fillP (ownT c) (Esc.toL c) most a (x :: rd) st) v.i (sl, sn - 1) else .error 7) = o := by rw [← HO4.out, if_neg hk3, if_pos hk5]
        rw [ho] at hw
        clear ho hk3 hk5
        go_wp2_with fail
        with_reducible refine hw.mono ?_
        rintro e w6 hret
        obtain ⟨v6, rfl⟩ := hret.val
        go_wp2
        go_ret
        exact hret.after HS5.out
      · have e5 : ((k : Int) == 5) = false := by rw [beq_eq_false_iff_ne]; omega
        have hw := pshow_any g w0.heap.size sl v E3 f3 E4 f4 c most (sn - 1) w5 HI5.out.pen (HG.out.below HI5.out.bel) HVF.out HV5.out.rd hc hsl hm HI5.out.bel.size
        have ho : addP most (sl, sn - 1) (Esc.toL c (showP v)) = o := by rw [← HO4.out, if_neg hk3, if_neg hk5]
        rw [ho] at hw
        clear ho hk3 hk5
        go_wp2_with fail
        with_reducible refine hw.mono ?_
        rintro e w6 hret
        obtain ⟨v6, rfl⟩ := hret.val
        go_wp2
        go_ret
        exact hret.after HS5.out
theorem pfill_any (w0 : World) (g c : Nat) (most : Int) (hG : GTab w0) (hc : 1 ≤ c ∧ c ≤ 3) (hm : most ≤ 1048576) (l : Nodes) : l.sm → l.len ≤ 1048576 → FillC w0 g c most l := by
  have key : ∀ l : Nodes, l.sm → (∀ j k t p a b r, l.drop j = .cons k t p a b r → OneC w0 g c most k t p a b) := by
    intro l
    induction l with
    | nil => intro _ j k t p a b r h; cases j <;> simp [Nodes.drop] at h
    | cons k' t' p' a' b' r' iha ihb ihr =>
      intro hs j k t p a b r h
      obtain ⟨s1, s2, s3, s4, s5, s6, s7, s8, s9⟩ := hs
      cases j with
      | zero =>
        simp only [Nodes.drop, Nodes.cons.injEq] at h
        obtain ⟨rfl, rfl, rfl, rfl, rfl, rfl⟩ := h
        exact pone_any w0 g c most _ _ _ _ _ hG hc hm s2 s3 (pfill_of w0 g c most _ s5 (iha s7)) (pfill_of w0 g c most _ s6 (ihb s8))
      | succ j => exact ihr s9 j k t p a b r h
  exact fun hs hl => pfill_of w0 g c most l hl (key l hs)
end Go.Proofs.YtniibpndgcndbaaGreatDoor.Tpl
namespace Go.Proofs.YtniibpndgcndbaaGreatDoor.Tpl
open Go.RowKit Go.Proofs Go.Extern.Stop Go.Stop Go.Extern Go.Proofs.YtniibpndgcndbaaGreatDoor.PB Go.Proofs.YtniibpndgcndbaaGreatDoor.Short Go.Proofs.YtniibpndgcndbaaGreatDoorW.PrintWords Go.Proofs.YtniibpndgcndbaaGreatDoorW.PrintLast Go.Proofs.YtniibpndgcndbaaGreatDoorW.PrintMore Nodes
abbrev errv (a : Addr) : Value := .iface 266 (.pointer (some a))
theorem isTypeOf (v : Value) (w : World) : (Extern.ReflectliteType.typeOf #[.iface 266 v]).run Tryz.prog w = .ok (.iface 207 (.agg #[.pointer (some ⟨9, 266, none⟩)])) w := by kernel_rfl
theorem isComparable (w : World) : (callFunc 241 #[.agg #[.pointer (some ⟨9, 266, none⟩)]]).run Tryz.prog w = .ok (.value (.bool true)) w := by
  have h32 := @run_callFunc_extern Tryz.prog 241 _ (Extern.ReflectliteType.method fun t => do Rtype.noPackHeld "Comparable" t; pure (.bool (← typeInfo t).comparable)) Tryz.func241 (by kernel_rfl) (by kernel_rfl) (by kernel_rfl) (by kernel_rfl)
  have e : ((Extern.ReflectliteType.method fun t => do Rtype.noPackHeld "Comparable" t; pure (.bool (← typeInfo t).comparable)) #[.agg #[.pointer (some ⟨9, 266, none⟩)]]).run Tryz.prog w = .ok (.bool true) w := by kernel_rfl
  rw [h32, e]; rfl
theorem isMethodComparable (v : Value) (w : World) : (Go.method 395 207 v "Comparable").run Tryz.prog w = .ok (241, v) w := by kernel_rfl
theorem isComp : (Tryz.prog.info? 266).map (·.comparable) = some true := by kernel_rfl
theorem isSize : (Tryz.prog.info? 284).map (·.size) = some 1 := by kernel_rfl
set_option maxRecDepth 100000 in
/-- errors.Is(x, x), x a pointer to an errors.errorString. -/
theorem is_same (a : Addr) (w : World) :
    Calls Tryz.prog 80 #[errv a, errv a] w fun e w' => e = .returned (.bool true) ∧ w' = w := by
  unfold errv
  obtain ⟨i, hi, hcmp⟩ := Option.map_eq_some_iff.1 isComp
  obtain ⟨j, hj, hjs⟩ := Option.map_eq_some_iff.1 isSize
  have h8 := @run_callFunc_extern Tryz.prog 118 _ Extern.ReflectliteType.typeOf Tryz.func118 (by kernel_rfl) (by kernel_rfl) (by kernel_rfl) (by kernel_rfl)
  have tT := isTypeOf
  have cT := isComparable
  have mR := isMethodComparable
  have heq := run_eql_iface_ptr_same (P := Tryz.prog) w a Tryz.underlying83 Tryz.underlying266 hi hcmp hj
  go_enter Tryz.func80, Tryz.ntmps80
  go_wp2
  refine wp_loop_rounds 1 ?_
  rw [rounds_succ]
  go_wp2
  go_ret
  exact ⟨rfl, rfl⟩
set_option maxRecDepth 100000 in
/-- errors.Is(nil, x). -/
theorem is_nil (b : Addr) (w : World) :
    Calls Tryz.prog 80 #[.nilIface, errv b] w fun e w' => e = .returned (.bool false) ∧ w' = w := by
  unfold errv
  have hn := run_eql_iface_nil_left (P := Tryz.prog) w 266 (.pointer (some b)) Tryz.underlying83
  go_enter Tryz.func80, Tryz.ntmps80
  go_wp2
  go_ret
  exact ⟨rfl, rfl⟩
end Go.Proofs.YtniibpndgcndbaaGreatDoor.Tpl
namespace Go.Proofs.YtniibpndgcndbaaGreatDoor.Tpl
open Go.RowKit Go.Proofs Go.Extern.Stop Go.Stop Go.Extern Go.Proofs.YtniibpndgcndbaaGreatDoor.PB Go.Proofs.YtniibpndgcndbaaGreatDoor.Short Go.Proofs.YtniibpndgcndbaaGreatDoorW.PrintWords Go.Proofs.YtniibpndgcndbaaGreatDoorW.PrintLast Go.Proofs.YtniibpndgcndbaaGreatDoorW.PrintMore
theorem as_nil (t : Value) (w : World) :
    Calls Tryz.prog 79 #[.nilIface, t] w fun e w' => e = .returned (.bool false) ∧ w' = w := by
  go_enter Tryz.func79, Tryz.ntmps79
  go_wp2
  go_ret
  exact ⟨rfl, rfl⟩
theorem as_valueOf27 (t : Addr) (w : World) : (ReflectliteValue.unpack (.iface 121 (.pointer (some t)))).run Tryz.prog w
    = .ok (.agg #[.pointer (some ⟨9, 121, none⟩), .pointer (some ⟨w.heap.size, 0, none⟩), .int .u64 150]) (w.alloc (.cells #[.pointer (some t)] 121)) := by kernel_rfl
theorem as_type27 (a : Addr) (w : World) : (ReflectliteValue.methodAny (ReflectliteValue.valueError "reflectlite.Value.Type" 0) (fun t _ _ _ => ReflectliteType.toType t) #[.agg #[.pointer (some ⟨9, 121, none⟩), .pointer (some a), .int .u64 150]]).run Tryz.prog w
    = .ok (.iface 207 (.agg #[.pointer (some ⟨9, 121, none⟩)])) w := by kernel_rfl
theorem as_methodKind (h : Value) (w : World) : (Go.method 395 207 (.agg #[h]) "Kind").run Tryz.prog w = .ok (229, h) w := by kernel_rfl
theorem as_kind27 (w : World) : ((ReflectliteType.abiMethod fun t => (fun a : Nat => Value.int IntKind.u8 (a : Int)) <$> Rtype.kind t) #[.pointer (some ⟨9, 121, none⟩)]).run Tryz.prog w = .ok (.int .u8 22) w := by kernel_rfl
theorem as_kind25 (w : World) : ((ReflectliteType.abiMethod fun t => (fun a : Nat => Value.int IntKind.u8 (a : Int)) <$> Rtype.kind t) #[.pointer (some ⟨9, 119, none⟩)]).run Tryz.prog w = .ok (.int .u8 22) w := by kernel_rfl
theorem as_rlm (z : Sem Value) (f : TypeId → Addr → Nat → Nat → Sem Value) (v : Value) :
    ReflectliteValue.method z f #[v] = (do match ← ReflectliteValue.parts v with | none => z | some (t, a, fl) => f t a fl (fl % 32)) := rfl
theorem as_parts27 (a : Addr) (w : World) : (ReflectliteValue.parts (.agg #[.pointer (some ⟨9, 121, none⟩), .pointer (some a), .int .u64 150])).run Tryz.prog w = .ok (some (121, a, 150)) w := by kernel_rfl
theorem as_isNil27 (a p : Addr) (W : World) (ha : W.cell? a = some (.pointer (some p))) :
    (ReflectliteValue.method (ReflectliteValue.valueError "reflectlite.Value.IsNil" 0) ReflectliteValue.isNil #[.agg #[.pointer (some ⟨9, 121, none⟩), .pointer (some a), .int .u64 150]]).run Tryz.prog W = .ok (.bool false) W := by
  rw [as_rlm]
  simp only [Sem.run_bind, as_parts27, Result.andThen]
  simp [ReflectliteValue.isNil, loadVar, isAgg, underlying, Tryz.underlying121, ha, Result.andThen]
theorem as_methodElem (h : Value) (w : World) : (Go.method 395 207 (.agg #[h]) "Elem").run Tryz.prog w = .ok (242, .agg #[h]) w := by kernel_rfl
theorem as_methodImplements (h : Value) (w : World) : (Go.method 395 207 (.agg #[h]) "Implements").run Tryz.prog w = .ok (243, .agg #[h]) w := by kernel_rfl
theorem as_methodAssignableTo (h : Value) (w : World) : (Go.method 395 207 (.agg #[h]) "AssignableTo").run Tryz.prog w = .ok (240, .agg #[h]) w := by kernel_rfl
theorem as_elem27 (w : World) : (ReflectliteType.method ReflectliteType.elem #[.agg #[.pointer (some ⟨9, 121, none⟩)]]).run Tryz.prog w = .ok (.iface 207 (.agg #[.pointer (some ⟨9, 119, none⟩)])) w := by kernel_rfl
theorem as_implements25 (w : World) : (ReflectliteType.relation "Implements" ReflectliteType.implements_ #[.agg #[.pointer (some ⟨9, 119, none⟩)], .iface 207 (.agg #[.pointer (some ⟨9, 83, none⟩)])]).run Tryz.prog w = .ok (.bool true) w := by kernel_rfl
theorem as_typeOf25 (v : Value) (w : World) : (ReflectliteType.typeOf #[.iface 119 v]).run Tryz.prog w = .ok (.iface 207 (.agg #[.pointer (some ⟨9, 119, none⟩)])) w := by kernel_rfl
theorem as_assignable25 (w : World) : (ReflectliteType.relation "AssignableTo" ReflectliteType.assignableTo #[.agg #[.pointer (some ⟨9, 119, none⟩)], .iface 207 (.agg #[.pointer (some ⟨9, 119, none⟩)])]).run Tryz.prog w = .ok (.bool true) w := by kernel_rfl
theorem as_valueOf25 (e : Addr) (w : World) : (ReflectliteValue.unpack (.iface 119 (.pointer (some e)))).run Tryz.prog w
    = .ok (.agg #[.pointer (some ⟨9, 119, none⟩), .pointer (some ⟨w.heap.size, 0, none⟩), .int .u64 150]) (w.alloc (.cells #[.pointer (some e)] 119)) := by kernel_rfl
theorem as_elemOf27 (w : World) : (Rtype.elem? 121).run Tryz.prog w = .ok (some 119) w := by kernel_rfl
theorem as_mk25 (p : Addr) (w : World) : (ReflectliteValue.mk 119 p ReflectliteValue.flagAddr).run Tryz.prog w = .ok (.agg #[.pointer (some ⟨9, 119, none⟩), .pointer (some p), .int .u64 406]) w := by kernel_rfl
theorem as_elemV27 (a p : Addr) (W : World) (ha : W.cell? a = some (.pointer (some p))) :
    (ReflectliteValue.method (ReflectliteValue.valueError "reflectlite.Value.Elem" 0) ReflectliteValue.elem #[.agg #[.pointer (some ⟨9, 121, none⟩), .pointer (some a), .int .u64 150]]).run Tryz.prog W
      = .ok (.agg #[.pointer (some ⟨9, 119, none⟩), .pointer (some p), .int .u64 406]) W := by
  rw [as_rlm]
  simp only [Sem.run_bind, as_parts27, Result.andThen]
  simp [ReflectliteValue.elem, loadVar, isAgg, underlying, Tryz.underlying121, ha, Result.andThen, as_elemOf27, as_mk25]
theorem as_rls (v x : Value) : ReflectliteValue.set #[v, x] = (do
    let (some (dst, a, fl), some (src, b, _)) := (← ReflectliteValue.parts v, ← ReflectliteValue.parts x)
      | unsupported (.noEntry "extern/(internal/reflectlite.Value).Set.zeroValue")
    if fl / ReflectliteValue.flagAddr % 2 == 0 then unsupported (.noEntry "extern/(internal/reflectlite.Value).Set.unaddressable")
    let val ← loadVar src b
    if ← Rtype.directlyAssignable dst src then storeVar dst a val
    else if ← Rtype.implements dst src then
      if (← Rtype.kind src) == 20 then
        match val with
        | .nilIface => unsupported (.noEntry "extern/reflectlite: a nil value of one interface type handed on as a value of another")
        | _ => storeVar dst a val
      else storeVar dst a (.iface src val)
    else panicString ("reflectlite.Set: value of type " ++ (← Rtype.spelt src) ++ " is not assignable to type " ++ (← Rtype.spelt dst))
    pure (.tuple #[])) := rfl
theorem as_parts25a (a : Addr) (w : World) : (ReflectliteValue.parts (.agg #[.pointer (some ⟨9, 119, none⟩), .pointer (some a), .int .u64 406])).run Tryz.prog w = .ok (some (119, a, 406)) w := by kernel_rfl
theorem as_parts25 (a : Addr) (w : World) : (ReflectliteValue.parts (.agg #[.pointer (some ⟨9, 119, none⟩), .pointer (some a), .int .u64 150])).run Tryz.prog w = .ok (some (119, a, 150)) w := by kernel_rfl
theorem as_direct25 (w : World) : (Rtype.directlyAssignable 119 119).run Tryz.prog w = .ok true w := by kernel_rfl
theorem as_set25 (ta b e : Addr) (old : Value) (W : World) (hb : W.cell? b = some (.pointer (some e))) (ht : W.cell? ta = some old) (hf : W.frozen? ta = false) :
    (ReflectliteValue.set #[.agg #[.pointer (some ⟨9, 119, none⟩), .pointer (some ta), .int .u64 406], .agg #[.pointer (some ⟨9, 119, none⟩), .pointer (some b), .int .u64 150]]).run Tryz.prog W
      = .ok (.tuple #[]) (W.setCell ta (.pointer (some e))) := by
  rw [as_rls]
  simp only [Sem.run_bind, as_parts25a, as_parts25, Result.andThen]
  simp [ReflectliteValue.flagAddr, loadVar, isAgg, underlying, Tryz.underlying119, hb, Result.andThen, as_direct25, storeVar, Value.cells, storeCells, Addr.add]
  rw [run_store Tryz.prog W ta _ _ (by rfl)]
  simp [ht, hf]
set_option maxHeartbeats 4000000 in
theorem as_hit0 (e t : Addr) (old : Value) (w : World) (hg : w.cell? ⟨2, 0, none⟩ = some (.iface 207 (.agg #[.pointer (some ⟨9, 83, none⟩)]))) (ht0 : w.cell? t = some old) (hf0 : w.frozen? t = false) :
    Calls Tryz.prog 79 #[.iface 119 (.pointer (some e)), .iface 121 (.pointer (some t))] w fun ev w' => ev = .returned (.bool true) ∧ w' = ((((w.alloc (.cells #[.pointer (some t)] 121)).alloc (.cells #[.pointer (some ⟨9, 121, none⟩), .pointer (some ⟨w.heap.size, 0, none⟩), .int .u64 150] 165)).alloc (.cells #[.pointer (some ⟨9, 121, none⟩), .pointer (some ⟨w.heap.size, 0, none⟩), .int .u64 150] 165)).alloc (.cells #[.pointer (some e)] 119)).setCell t (.pointer (some e)) := by
  have h6 := @run_callFunc_extern Tryz.prog 114 _ (fun args => ReflectliteValue.unpack (args.getD 0 (.tuple #[]))) Tryz.func114 (by kernel_rfl) (by kernel_rfl) (by kernel_rfl) (by kernel_rfl)
  have h7 := @run_callFunc_extern Tryz.prog 115 _ (ReflectliteValue.methodAny (ReflectliteValue.valueError "reflectlite.Value.Type" 0) (fun t _ _ _ => ReflectliteType.toType t)) Tryz.func115 (by kernel_rfl) (by kernel_rfl) (by kernel_rfl) (by kernel_rfl)
  have h8 := @run_callFunc_extern Tryz.prog 116 _ (ReflectliteValue.method (ReflectliteValue.valueError "reflectlite.Value.IsNil" 0) ReflectliteValue.isNil) Tryz.func116 (by kernel_rfl) (by kernel_rfl) (by kernel_rfl) (by kernel_rfl)
  have h27 := @run_callFunc_extern Tryz.prog 229 _ (ReflectliteType.abiMethod fun t => do pure (.int .u8 (← Rtype.kind t))) Tryz.func229 (by kernel_rfl) (by kernel_rfl) (by kernel_rfl) (by kernel_rfl)
  have h37 := @run_callFunc_extern Tryz.prog 242 _ (ReflectliteType.method ReflectliteType.elem) Tryz.func242 (by kernel_rfl) (by kernel_rfl) (by kernel_rfl) (by kernel_rfl)
  have h38 := @run_callFunc_extern Tryz.prog 243 _ (ReflectliteType.relation "Implements" ReflectliteType.implements_) Tryz.func243 (by kernel_rfl) (by kernel_rfl) (by kernel_rfl) (by kernel_rfl)
  have h10 := @run_callFunc_extern Tryz.prog 118 _ ReflectliteType.typeOf Tryz.func118 (by kernel_rfl) (by kernel_rfl) (by kernel_rfl) (by kernel_rfl)
  have h35 := @run_callFunc_extern Tryz.prog 240 _ (ReflectliteType.relation "AssignableTo" ReflectliteType.assignableTo) Tryz.func240 (by kernel_rfl) (by kernel_rfl) (by kernel_rfl) (by kernel_rfl)
  have h11 := @run_callFunc_extern Tryz.prog 156 _ (ReflectliteValue.method (ReflectliteValue.valueError "reflectlite.Value.Elem" 0) ReflectliteValue.elem) Tryz.func156 (by kernel_rfl) (by kernel_rfl) (by kernel_rfl) (by kernel_rfl)
  have h12 := @run_callFunc_extern Tryz.prog 157 _ ReflectliteValue.set Tryz.func157 (by kernel_rfl) (by kernel_rfl) (by kernel_rfl) (by kernel_rfl)
  have tO := as_typeOf25
  have mA := as_methodAssignableTo
  have a25 := as_assignable25
  have v25 := as_valueOf25
  have f6 := as_valueOf27
  have f7 := as_type27
  have mK := as_methodKind
  have mE := as_methodElem
  have mI := as_methodImplements
  have k27 := as_kind27
  have k25 := as_kind25
  have e27 := as_elem27
  have i25 := as_implements25
  have n8 := as_isNil27 ⟨w.heap.size, 0, none⟩ t ((w.alloc (.cells #[.pointer (some t)] 121)).alloc (.cells #[.pointer (some ⟨9, 121, none⟩), .pointer (some ⟨w.heap.size, 0, none⟩), .int .u64 150] 165)) (by simp)
  have hlt : 2 < w.heap.size := by
    rcases Nat.lt_or_ge 2 w.heap.size with h | h
    · exact h
    · simp [World.cell?, Array.getElem?_eq_none h] at hg
  have hg2 : ((w.alloc (.cells #[.pointer (some t)] 121)).alloc (.cells #[.pointer (some ⟨9, 121, none⟩), .pointer (some ⟨w.heap.size, 0, none⟩), .int .u64 150] 165)).cell? ⟨2, 0, none⟩ = some (.iface 207 (.agg #[.pointer (some ⟨9, 83, none⟩)])) := by
    rw [World.cell?_alloc_lt _ _ ⟨2, 0, none⟩ (by rw [World.size_alloc]; exact Nat.lt_succ_of_lt hlt), World.cell?_alloc_lt _ _ ⟨2, 0, none⟩ hlt]; exact hg
  have htl : t.block < w.heap.size := by
    rcases Nat.lt_or_ge t.block w.heap.size with h | h
    · exact h
    · simp [World.cell?, Array.getElem?_eq_none h] at ht0
  have el := as_elemV27 ⟨w.heap.size, 0, none⟩ t (((w.alloc (.cells #[.pointer (some t)] 121)).alloc (.cells #[.pointer (some ⟨9, 121, none⟩), .pointer (some ⟨w.heap.size, 0, none⟩), .int .u64 150] 165)).alloc (.cells #[.pointer (some ⟨9, 121, none⟩), .pointer (some ⟨w.heap.size, 0, none⟩), .int .u64 150] 165)) (by rw [World.cell?_alloc_lt _ _ ⟨w.heap.size, 0, none⟩ (by simp; omega)]; simp)
  have st := as_set25 t ⟨w.heap.size + 1 + 1 + 1, 0, none⟩ e old ((((w.alloc (.cells #[.pointer (some t)] 121)).alloc (.cells #[.pointer (some ⟨9, 121, none⟩), .pointer (some ⟨w.heap.size, 0, none⟩), .int .u64 150] 165)).alloc (.cells #[.pointer (some ⟨9, 121, none⟩), .pointer (some ⟨w.heap.size, 0, none⟩), .int .u64 150] 165)).alloc (.cells #[.pointer (some e)] 119))
    (by rw [World.cell?_alloc_at _ _ _ _ (by simp)]; rfl)
    (by rw [World.cell?_alloc_lt _ _ t (by simp; omega), World.cell?_alloc_lt _ _ t (by simp; omega), World.cell?_alloc_lt _ _ t (by simp; omega), World.cell?_alloc_lt _ _ t htl]; exact ht0)
    (by rw [World.frozen?_alloc_old _ _ t (by simp; omega), World.frozen?_alloc_old _ _ t (by simp; omega), World.frozen?_alloc_old _ _ t (by simp; omega), World.frozen?_alloc_old _ _ t (Nat.ne_of_lt htl)]; exact hf0)
  go_enter Tryz.func79, Tryz.ntmps79
  go_wp2
  refine wp_loop_rounds 1 ?_
  rw [rounds_succ]
  go_wp2
  go_ret
  exact ⟨rfl, rfl⟩
def GTyp (w : World) : Prop := w.cell? ⟨2, 0, none⟩ = some (.iface 207 (.agg #[.pointer (some ⟨9, 83, none⟩)]))
theorem GTyp.below {w w' : World} (h : GTyp w) (hb : Below w.heap.size w w') : GTyp w' := pw_cell_below hb h
theorem as_hit (e : Addr) (g : Nat) (old : Value) (w : World) (hG : GTyp w) (ht : w.heap[g]? = some (.cells #[old] 119 (0, 0))) :
    Calls Tryz.prog 79 #[.iface 119 (.pointer (some e)), .iface 121 (.pointer (some ⟨g, 0, none⟩))] w fun ev w' => ev = .returned (.bool true) ∧ KeepP (fun k => k = g) w w' := by
  refine (as_hit0 e ⟨g, 0, none⟩ old w hG ((blk_cell ht 0).trans rfl) (blk_frozen ht 0)).mono ?_
  rintro ev w' ⟨rfl, rfl⟩
  exact ⟨rfl, KeepP.set (ok := fun k => k = g) (p := ⟨g, 0, none⟩) (KeepP.alloc (KeepP.alloc (KeepP.alloc (KeepP.alloc (KeepP.refl w) _) _) _) _) (.inl rfl) _⟩
end Go.Proofs.YtniibpndgcndbaaGreatDoor.Tpl
namespace Go.Proofs.YtniibpndgcndbaaGreatDoor.Tpl
open Go.RowKit Go.Proofs Go.Extern.Stop Go.Stop Go.Extern Go.Proofs.YtniibpndgcndbaaGreatDoor.PB Go.Proofs.YtniibpndgcndbaaGreatDoor.Short Go.Proofs.YtniibpndgcndbaaGreatDoorW.PrintWords Go.Proofs.YtniibpndgcndbaaGreatDoorW.PrintLast Go.Proofs.YtniibpndgcndbaaGreatDoorW.PrintMore
theorem isTypeOf24 (v : Value) (w : World) : (Extern.ReflectliteType.typeOf #[.iface 24 v]).run Tryz.prog w = .ok (.iface 207 (.agg #[.pointer (some ⟨9, 24, none⟩)])) w := by kernel_rfl
theorem isComparable24 (w : World) : (callFunc 241 #[.agg #[.pointer (some ⟨9, 24, none⟩)]]).run Tryz.prog w = .ok (.value (.bool true)) w := by
  have h32 := @run_callFunc_extern Tryz.prog 241 _ (Extern.ReflectliteType.method fun t => do Rtype.noPackHeld "Comparable" t; pure (.bool (← typeInfo t).comparable)) Tryz.func241 (by kernel_rfl) (by kernel_rfl) (by kernel_rfl) (by kernel_rfl)
  have e : ((Extern.ReflectliteType.method fun t => do Rtype.noPackHeld "Comparable" t; pure (.bool (← typeInfo t).comparable)) #[.agg #[.pointer (some ⟨9, 24, none⟩)]]).run Tryz.prog w = .ok (.bool true) w := by kernel_rfl
  rw [h32, e]; rfl
theorem as_is119 (v : Value) (xT : TypeId) (w : World) : (Instr.typeAssert (.iface 119 v) xT 219 true).run Tryz.prog w = .ok (.tuple #[.nilIface, .bool false]) w := run_typeAssert_lacksB Tryz.underlying219 (by kernel_rfl) (by kernel_rfl) v xT w
theorem as_un119 (v : Value) (xT : TypeId) (w : World) : (Instr.typeAssert (.iface 119 v) xT 214 true).run Tryz.prog w = .ok (.tuple #[.iface 119 v, .bool true]) w := run_typeAssert_hasB Tryz.underlying214 (by kernel_rfl) v xT w
theorem as_is24 (v : Value) (xT : TypeId) (w : World) : (Instr.typeAssert (.iface 24 v) xT 219 true).run Tryz.prog w = .ok (.tuple #[.nilIface, .bool false]) w := run_typeAssert_lacksB Tryz.underlying219 (by kernel_rfl) (by kernel_rfl) v xT w
theorem as_un24 (v : Value) (xT : TypeId) (w : World) : (Instr.typeAssert (.iface 24 v) xT 214 true).run Tryz.prog w = .ok (.tuple #[.nilIface, .bool false]) w := run_typeAssert_lacksB Tryz.underlying214 (by kernel_rfl) (by kernel_rfl) v xT w
theorem as_uns24 (v : Value) (xT : TypeId) (w : World) : (Instr.typeAssert (.iface 24 v) xT 216 true).run Tryz.prog w = .ok (.tuple #[.nilIface, .bool false]) w := run_typeAssert_lacksB Tryz.underlying216 (by kernel_rfl) (by kernel_rfl) v xT w
theorem un_method119 (v : Value) (w : World) : (Go.method 395 119 v "Unwrap").run Tryz.prog w = .ok (235, v) w := by kernel_rfl
theorem is_eq119 (v u : Value) (w : World) : (binOp .eql 83 (.iface 119 v) (.iface 24 u)).run Tryz.prog w = .ok (.bool false) w := run_eql_iface_types _ _ _ _ Tryz.underlying83 (by decide) w
theorem is_eq24 (y z : Int) (w : World) : (binOp .eql 83 (.iface 24 (.int .i64 y)) (.iface 24 (.int .i64 z))).run Tryz.prog w = .ok (.bool (y == z)) w := Lib.run_eql_iface_int w y z Tryz.underlying83 (by kernel_rfl) Tryz.underlying24
abbrev stopV (b : Nat) : Value := .iface 119 (.pointer (some ⟨b, 0, none⟩))
set_option maxRecDepth 100000 in
set_option maxHeartbeats 1000000 in
theorem is_stop (b : Nat) (y z : Int) (w : World) (hb : w.heap[b]? = some (stopO y)) :
    Calls Tryz.prog 80 #[stopV b, .iface 24 (.int .i64 z)] w fun e w' => e = .returned (.bool (y == z)) ∧ w' = w := by
  unfold stopV
  have h8 := @run_callFunc_extern Tryz.prog 118 _ Extern.ReflectliteType.typeOf Tryz.func118 (by kernel_rfl) (by kernel_rfl) (by kernel_rfl) (by kernel_rfl)
  have tT := isTypeOf24
  have cT := isComparable24
  have mR := isMethodComparable
  have a1 := as_is119
  have a2 := as_un119
  have a3 := as_is24
  have a4 := as_un24
  have a5 := as_uns24
  have a6 := un_method119
  have a7 := is_eq119
  have a8 := is_eq24
  have y0 : w.cell? ⟨b, 0, none⟩ = some (.int .i64 y) := (blk_cell hb 0).trans rfl
  go_enter Tryz.func80, Tryz.ntmps80
  go_wp2
  refine wp_loop_rounds 2 ?_
  rw [rounds_succ]
  go_wp2
  cases hyz : y == z
  all_goals
    have e0 := hyz
    rw [rounds_succ]
    go_wp2
    go_ret
    exact ⟨by rw [e0]; rfl, rfl⟩
def GRea (w : World) : Prop := w.cell? ⟨0, 0, none⟩ = some (.int .i64 3) ∧ w.cell? ⟨0, 1, none⟩ = some (.int .i64 7) ∧ w.cell? ⟨0, 2, none⟩ = some (.int .i64 12)
theorem GRea.below {w w' : World} (h : GRea w) (hb : Below w.heap.size w w') : GRea w' := ⟨pw_cell_below hb h.1, pw_cell_below hb h.2.1, pw_cell_below hb h.2.2⟩
set_option maxRecDepth 100000 in
theorem reason_nil (w : World) : Calls Tryz.prog 55 #[.nilIface] w fun e w' => e = .returned (.int .i64 0) ∧ Below w.heap.size w w' := by
  have hn := fun t w => as_nil t w
  go_enter Tryz.func55, Tryz.ntmps55
  go_wp2_with fail
  refine (hn _ _).mono ?_
  rintro e w1 ⟨rfl, rfl⟩
  go_wp2
  go_ret
  exact ⟨rfl, below_alloc (Below.refl _ _) _⟩
theorem rea_ix0 (w : World) : (Instr.index 122 (.agg #[.int .i64 3, .int .i64 7, .int .i64 12]) (.int .i64 0)).run Tryz.prog w = .ok (.int .i64 3) w := by kernel_rfl
theorem rea_ix1 (w : World) : (Instr.index 122 (.agg #[.int .i64 3, .int .i64 7, .int .i64 12]) (.int .i64 1)).run Tryz.prog w = .ok (.int .i64 7) w := by kernel_rfl
theorem rea_ix2 (w : World) : (Instr.index 122 (.agg #[.int .i64 3, .int .i64 7, .int .i64 12]) (.int .i64 2)).run Tryz.prog w = .ok (.int .i64 12) w := by kernel_rfl
set_option maxRecDepth 100000 in
set_option maxHeartbeats 1000000 in
theorem reason_stop (b : Nat) (k : Int) (w : World) (hT : GTyp w) (hR : GRea w) (hb : w.heap[b]? = some (stopO k)) (hk : k = 12 ∨ k = 3 ∨ k = 2 ∨ k = 7) : Calls Tryz.prog 55 #[stopV b] w fun e w' => e = .returned (.int .i64 k) ∧ Below w.heap.size w w' := by
  have hb1 := below_alloc (Below.refl w.heap.size w) (.cells #[.pointer none] 119)
  have has := as_hit ⟨b, 0, none⟩ w.heap.size (.pointer none) (w.alloc (.cells #[.pointer none] 119)) (hT.below hb1) (blk_new w _)
  have i0 := rea_ix0
  have i1 := rea_ix1
  have i2 := rea_ix2
  have HB := Aside0.mk hb
  have HR := Aside0.mk hR
  have HB1 := Aside0.mk hb1
  clear hT hR hb hb1
  go_enter Tryz.func55, Tryz.ntmps55
  go_wp2_with fail
  refine has.mono ?_
  rintro e w1 ⟨rfl, hkp⟩
  have hbl : Below w.heap.size w w1 := HB1.out.trans (hkp.below (B := w.heap.size) (fun _ h => Nat.le_of_eq h.symm) (by rw [World.size_alloc]; exact Nat.le_succ _))
  have hIs := fun z => is_stop b k z w1 (blk_below HB.out hbl)
  obtain ⟨r0, r1, r2⟩ := HR.out.below hbl
  have HBL := Aside0.mk hbl
  clear has hkp hbl
  rcases hk with rfl | rfl | rfl | rfl
  all_goals
    go_wp2
    refine wp_loop_rounds 4 ?_
    repeat (rw [rounds_succ]; go_wp2_with (go_at_call 80; refine (hIs _).mono ?_; rintro e w' ⟨rfl, rfl⟩))
    go_ret
    exact ⟨rfl, HBL.out⟩
end Go.Proofs.YtniibpndgcndbaaGreatDoor.Tpl
namespace Go.Proofs.YtniibpndgcndbaaGreatDoor.Tpl
open Go.RowKit Go.Proofs Go.Proofs.YtniibpndgcndbaaGreatDoor.PB Go.Proofs.YtniibpndgcndbaaGreatDoor.Short Go.Proofs.YtniibpndgcndbaaGreatDoorW.PrintWords Go.Proofs.YtniibpndgcndbaaGreatDoorW.PrintLast Go.Proofs.YtniibpndgcndbaaGreatDoorW.PrintMore
abbrev escT (n : Nat) : S → S := Esc.toL (n : Int)
def TextRet (o : Except Int S) (w : World) (e : Ending) (w' : World) : Prop :=
  Below w.heap.size w w' ∧ match o with
  | .ok s => e = .returned (.tuple #[.string (bs s), .int .i64 0])
  | .error k => e = .returned (.tuple #[.string ⟨#[]⟩, .int .i64 k])
structure GlobR (w : World) : Prop where
  glob : Glob w
  tab : GTab w
  typ : GTyp w
  rea : GRea w
theorem GlobR.below {w w' : World} (h : GlobR w) (hb : Below w.heap.size w w') : GlobR w' := ⟨h.glob.below hb, h.tab.below hb, h.typ.below hb, h.rea.below hb⟩
theorem FillP_no {T : Nat → S → S} {l : Nodes} {v : Val} {c : Nat} (h : ¬ (l.chk = true ∧ v.ok = true)) : FillP T l v c = .error 2 := by unfold FillP; rw [if_neg h]
theorem emost_any (c : Nat) (w : World) : Calls Tryz.prog 35 #[.int .u8 c] w fun e w' => e = .returned (.tuple #[.int .i64 (if 1 ≤ c ∧ c ≤ 3 then mostC c else 0), .int .i64 (if 1 ≤ c ∧ c ≤ 3 then 0 else 1)]) ∧ Below w.heap.size w w' := by
  have h : esc_Most.f (c : Int) = some ((if 1 ≤ c ∧ c ≤ 3 then mostC c else 0), (if 1 ≤ c ∧ c ≤ 3 then 0 else 1)) := by
    unfold esc_Most.f mostC
    by_cases h1 : c = 1
    · subst h1; rfl
    by_cases h2 : c = 2
    · subst h2; rfl
    by_cases h3 : c = 3
    · subst h3; rfl
    rw [if_neg (by omega), if_neg (by omega), if_neg (by omega), if_neg (by omega), if_neg (by omega)]
  exact (esc_Most.calls _ _ _ w h).mono (fun e w' h => ⟨h.1, by have := h.2; exact this.below⟩)
abbrev penO (c : Nat) (most : Int) : Obj := .cells #[.pointer none, .slice none 0 0, .int .u8 c, .int .i64 most, .int .i64 4096] 80 (0, 0)
theorem pen_new {w0 w : World} {c : Nat} {most : Int} {g : Nat} (hg : w0.heap.size ≤ g) (hk : w.heap[g]? = some (penO c most)) : PenAt w w0.heap.size g [] c most 4096 ∧ bufOf w g = none := by
  refine ⟨⟨hg, _, _, .inl rfl, hk, ⟨rfl, .inl ⟨rfl, rfl⟩⟩, fun _ => rfl⟩, ?_⟩
  unfold bufOf
  rw [(blk_cell hk 1).trans rfl]
  rfl
set_option maxHeartbeats 2000000 in
set_option maxRecDepth 100000 in
theorem fill_any (l : Nodes) (A : Option Addr) (c0 : Nat) (v : Val) (A3 : Option Addr) (c3 : Nat) (A4 : Option Addr) (c4 : Nat) (c : Nat) (w : World) (hG : GlobR w) (hs : l.sm) (hl : l.len ≤ 1048576) (hn : l.cnt ≤ 1048576) (hN : Nodes.Rd w A c0 l) (hv : v.fit) (hV : RdV w v A3 c3 A4 c4) :
    Calls Tryz.prog 26 #[.slice A l.len c0, vAgg v A3 c3 A4 c4, .int .u8 c] w (TextRet (FillP escT l v c) w) := by
  obtain ⟨o, ho⟩ : ∃ o, FillP escT l v c = o := ⟨_, rfl⟩
  rw [ho]
  have HO := Aside0.mk ho
  have hb1 := below_alloc (Below.refl w.heap.size w) (vObj v.k v.t v.n v.i v.m A3 c3 A4 c4)
  have BK1 := blk_new w (vObj v.k v.t v.n v.i v.m A3 c3 A4 c4)
  have HG := Aside0.mk hG
  have HN := Aside0.mk (hN.below hb1)
  have HV := Aside0.mk (hV.below hb1)
  have HF := Aside0.mk hv
  have HB1 := Aside0.mk hb1
  have HS := Aside0.mk hs
  have HNF := Aside0.mk (hN.fd)
  have HVF := Aside0.mk (RV.of_rd hV)
  clear ho hG hN hV hv hb1
  go_enter Tryz.func26, Tryz.ntmps26
  go_upto_region 1 with (fail)
  generalize w.alloc (vObj v.k v.t v.n v.i v.m A3 c3 A4 c4) = W at BK1 HN HV HB1 ⊢
  obtain ⟨b1, hb1⟩ : ∃ b, w.heap.size = b := ⟨_, rfl⟩
  have Hb1 := Aside0.mk hb1
  rw [hb1] at BK1 ⊢
  clear hb1
  obtain ⟨y0, y1, y2, y3, y4, -⟩ := cells_5 BK1
  have HK1 := Aside0.mk BK1
  clear BK1
  have hck := chk_any l A c0 W (HG.out.glob.below HB1.out) HS.out HN.out hl hn
  cases hlc : l.chk with
  | false =>
    rw [hlc] at hck
    have ho : Except.error 2 = o := by rw [← HO.out]; exact (FillP_no (by rw [hlc]; simp)).symm
    subst ho
    go_wp2_with fail
    refine hck.mono ?_
    rintro e w2 ⟨rfl, hb⟩
    have HB := Aside0.mk hb
    clear hck hb
    go_wp2
    go_ret2
    exact ⟨below_step HB1.out HB.out, rfl⟩
  | true =>
    rw [hlc] at hck
    go_wp2_with fail
    refine hck.mono ?_
    rintro e w2 ⟨rfl, hb⟩
    have HB := Aside0.mk hb
    have hvk := vchk_any v.k v.t v.n v.i v.m A3 c3 A4 c4 w2 HF.out.1 (HV.out.below hb).1 (HV.out.below hb).2 HF.out.2
    have z0 := pw_cell_below hb y0
    have z1 := pw_cell_below hb y1
    have z2 := pw_cell_below hb y2
    have z3 := pw_cell_below hb y3
    have z4 := pw_cell_below hb y4
    have HK2 := Aside0.mk (blk_below HK1.out hb)
    clear hck hb y0 y1 y2 y3 y4 HK1
    cases hvc : chkV v.k v.t v.n v.i v.m with
    | false =>
      rw [hvc] at hvk
      have ho : Except.error 2 = o := by rw [← HO.out]; exact (FillP_no (fun h => by have h2 : chkV v.k v.t v.n v.i v.m = true := h.2; rw [hvc] at h2; cases h2)).symm
      subst ho
      go_wp2_with fail
      refine hvk.mono ?_
      rintro e w3 ⟨rfl, hb⟩
      have HB2 := Aside0.mk hb
      clear hvk hb
      go_wp2
      go_ret2
      exact ⟨below_step HB1.out (below_step HB.out HB2.out), rfl⟩
    | true =>
      rw [hvc] at hvk
      go_wp2_with fail
      refine hvk.mono ?_
      rintro e w3 ⟨rfl, hb⟩
      have HB3 := Aside0.mk (below_step HB1.out (below_step HB.out hb))
      have K3 := blk_below HK2.out hb
      clear hvk hb z0 z1 z2 z3 z4 HK2 HB HB1
      have hmo := emost_any c w3
      have HO2 : Aside0 ((if 1 ≤ c ∧ c ≤ 3 then (match fillP (ownT c) (Esc.toL c) (mostC c) l [v] ([], 4096) with | .ok q => .ok q.1 | .error e => .error e) else .error 1) = o) := ⟨by have h := HO.out; unfold FillP at h; rw [if_pos ⟨hlc, hvc⟩] at h; exact h⟩
      clear hlc hvc HO
      by_cases hc : 1 ≤ c ∧ c ≤ 3
      · rw [if_pos hc, if_pos hc] at hmo
        have ho2 : (match fillP (ownT c) (Esc.toL c) (mostC c) l [v] ([], 4096) with | .ok q => Except.ok q.1 | .error e => .error e) = o := by rw [← HO2.out, if_pos hc]
        have HO3 := Aside0.mk ho2
        have hm : mostC c ≤ 1048576 ∧ 0 ≤ mostC c := by unfold mostC; split; decide; split <;> decide
        clear HO2 ho2
        go_wp2_with fail
        refine hmo.mono ?_
        rintro e w4 ⟨rfl, hb⟩
        have HB4 := Aside0.mk (below_step HB3.out hb)
        have K4 := blk_below K3 hb
        clear hmo hb K3
        generalize mostC c = most at HO3 hm ⊢
        go_upto_region 7 with (fail)
        have hbp := below_alloc (Below.refl w4.heap.size w4) (penO c most)
        have KP := blk_new w4 (penO c most)
        have K5 := blk_below K4 hbp
        have HB5 := Aside0.mk (below_step HB4.out hbp)
        have hgp : w.heap.size ≤ w4.heap.size := HB4.out.size
        clear hbp K4
        generalize w4.alloc (penO c most) = W5 at KP K5 HB5 ⊢
        obtain ⟨g, hg⟩ : ∃ g, w4.heap.size = g := ⟨_, rfl⟩
        rw [hg] at KP hgp ⊢
        clear hg
        obtain ⟨y0, y1, y2, y3, y4, -⟩ := cells_5 K5
        have hbr := below_alloc (Below.refl W5.heap.size W5) (rObj v A3 c3 A4 c4 none)
        have KR := blk_new W5 (rObj v A3 c3 A4 c4 none)
        have hB6 := below_step HB5.out hbr
        obtain ⟨hpen, hbuf⟩ := pen_new (w0 := w) hgp (blk_below KP hbr)
        have hoff : ∀ k, k < w.heap.size → Off (W5.alloc (rObj v A3 c3 A4 c4 none)) g k := fun k hk => ⟨by omega, by rw [hbuf]; simp⟩
        have hoffr : Off (W5.alloc (rObj v A3 c3 A4 c4 none)) g W5.heap.size := ⟨by have := blk_lt KP; omega, by rw [hbuf]; simp⟩
        have hin : PenIn w g c most [v] (some ⟨W5.heap.size, 0, none⟩) ([], 4096) (W5.alloc (rObj v A3 c3 A4 c4 none)) :=
          ⟨hpen, hB6, ⟨_, A3, c3, A4, c4, none, rfl, hoffr, KR, (HVF.out.below hB6).mono hoff, rfl⟩, ⟨by simpa using hm.2, by simp, by simp⟩⟩
        have hcall := pfill_any w g c most HG.out.tab hc hm.1 l HS.out hl [v] (some ⟨W5.heap.size, 0, none⟩) A c0 ([], 4096) _ hin (by simp) (fun x hx => by simp at hx; exact hx ▸ HF.out) (FdN.mono ⟨Kd.F_below HNF.out.1 hB6, HNF.out.2⟩ hoff)
        have HIN := Aside0.mk hin
        clear hoff hoffr hpen hbuf hin KR KP hbr hB6 K5
        go_wp2_with fail
        with_reducible refine hcall.mono ?_
        rintro e w6 hret
        have HB6 : Aside0 (Below w.heap.size w w6) := ⟨HIN.out.bel.trans (hret.1.belowP HIN.out.pen HIN.out.bel.size)⟩
        clear hcall
        cases hf : fillP (ownT c) (Esc.toL c) most l [v] ([], 4096) with
        | error k =>
          have ho : Except.error k = o := by rw [← HO3.out, hf]
          subst ho
          rw [hf] at hret
          obtain ⟨_, bk, rfl, hk⟩ := hret
          have hke := fillP_err l _ _ _ hf
          have hrs := reason_stop bk k w6 (HG.out.typ.below HB6.out) (HG.out.rea.below HB6.out) hk hke
          have ek : (k == 0) = false := by rw [beq_eq_false_iff_ne]; omega
          clear hf hk hke
          go_wp2_with fail
          refine hrs.mono ?_
          rintro e w7 ⟨rfl, hb⟩
          have HB7 := Aside0.mk (below_step HB6.out hb)
          clear hrs hb
          go_wp2
          go_ret2
          exact ⟨HB7.out, rfl⟩
        | ok q =>
          have ho : Except.ok q.1 = o := by rw [← HO3.out, hf]
          subst ho
          rw [hf] at hret
          obtain ⟨_, rfl, hpen⟩ := hret
          have HP := Aside0.mk hpen
          have hrs := reason_nil w6
          clear hf hpen
          go_wp2_with fail
          refine hrs.mono ?_
          rintro e w7 ⟨rfl, hb⟩
          have HB7 := Aside0.mk (below_step HB6.out hb)
          have hst := pstring_any g w.heap.size q.1 c most q.2 w7 (HP.out.below hb) HB7.out.size
          clear hrs hb
          go_wp2_with fail
          refine hst.mono ?_
          rintro e w8 ⟨rfl, hb⟩
          have HB8 := Aside0.mk (HB7.out.trans hb)
          clear hst hb
          go_wp2
          go_ret2
          exact ⟨HB8.out, rfl⟩
      · rw [if_neg hc, if_neg hc] at hmo
        have ho : Except.error 1 = o := by rw [← HO2.out, if_neg hc]
        subst ho
        clear hc
        go_wp2_with fail
        refine hmo.mono ?_
        rintro e w4 ⟨rfl, hb⟩
        have HB4 := Aside0.mk hb
        clear hmo hb
        go_wp2
        go_ret2
        exact ⟨below_step HB3.out HB4.out, rfl⟩
end Go.Proofs.YtniibpndgcndbaaGreatDoor.Tpl
namespace Go.Proofs.YtniibpndgcndbaaGreatDoor.Tpl
open Go.RowKit Go.Proofs Go.Proofs.YtniibpndgcndbaaGreatDoor.PB Go.Proofs.YtniibpndgcndbaaGreatDoor.Short Go.Proofs.YtniibpndgcndbaaGreatDoorW.PrintWords Go.Proofs.YtniibpndgcndbaaGreatDoorW.PrintLast Go.Proofs.YtniibpndgcndbaaGreatDoorW.PrintMore
def Vals.list : Vals → List Val
  | .nil => []
  | .cons k t n i m r => ⟨k, t, n, i, m⟩ :: r.list
def MeansP (path : List S) (v : Val) (l : Vals) : Except Int Val := if (v.ok && l.list.all Val.ok) = true then meansP path (l.list.reverse ++ [v]) else .error 2
theorem Vals.list_fit (l : Vals) : l.sm → l.cnt ≤ 1048576 → ∀ x, x ∈ l.list → x.fit := by
  induction l with
  | nil => intro _ _ x hx; simp [Vals.list] at hx
  | cons k t n i m r _ ih =>
    intro hs hc x hx
    obtain ⟨a1, a2, a3, a4, a5, a6, a7, a8⟩ := hs
    simp only [Vals.cnt] at hc
    rcases List.mem_cons.1 hx with h | h
    · subst h; exact ⟨⟨a1, a2, a3, a4, a5, a6, a7, trivial⟩, by show i.cnt ≤ 1048576; omega⟩
    · exact ih a8 (by omega) x h
set_option maxHeartbeats 2000000 in
set_option maxRecDepth 100000 in
theorem means_any (path : List S) (Ap : Option Addr) (cp : Nat) (v : Val) (A3 : Option Addr) (c3 : Nat) (A4 : Option Addr) (c4 : Nat) (l : Vals) (Ai : Option Addr) (ci : Nat) (w : World)
    (hP : RdS w Ap cp path) (hp : path.length ≤ 1048576) (hv : v.fit) (hV : RdV w v A3 c3 A4 c4) (hs : l.sm) (hl : l.len ≤ 1048576) (hc : l.cnt ≤ 1048576) (hL : Vals.Rd w Ai ci l) :
    Calls Tryz.prog 31 #[.slice Ap path.length cp, vAgg v A3 c3 A4 c4, .slice Ai l.len ci] w (FindRet (MeansP path v l) (fun _ => True) w) := by
  obtain ⟨o, ho⟩ : ∃ o, MeansP path v l = o := ⟨_, rfl⟩
  rw [ho]
  have HO := Aside0.mk ho
  have HV := Aside0.mk hV
  have HP := Aside0.mk hP
  have HL := Aside0.mk (Rd.fd hL)
  have HF := Aside0.mk hv
  have HS := Aside0.mk hs
  have hb1 := below_alloc (below_alloc (Below.refl w.heap.size w) (vObj v.k v.t v.n v.i v.m A3 c3 A4 c4)) zBox
  have BK1 := blk_alloc (blk_new w (vObj v.k v.t v.n v.i v.m A3 c3 A4 c4)) zBox
  have BK2 := blk_new (w.alloc (vObj v.k v.t v.n v.i v.m A3 c3 A4 c4)) zBox
  rw [World.size_alloc] at BK2
  have HB1 := Aside0.mk hb1
  clear ho hP hv hV hs hL hb1
  go_enter Tryz.func31, Tryz.ntmps31
  go_upto_region 1 with (fail)
  generalize (w.alloc (vObj v.k v.t v.n v.i v.m A3 c3 A4 c4)).alloc zBox = W at BK1 BK2 HB1 ⊢
  obtain ⟨b1, hb1⟩ : ∃ b, w.heap.size = b := ⟨_, rfl⟩
  have Hb1 := Aside0.mk hb1
  rw [hb1] at BK1 BK2 ⊢
  clear hb1
  obtain ⟨y0, y1, y2, y3, y4, -⟩ := cells_5 BK1
  have HK1 := Aside0.mk BK1
  have HK2 := Aside0.mk BK2
  clear BK1 BK2
  go_upto_region 2 with (fail)
  have hb2 := below_alloc (Below.refl W.heap.size W) (rObj v A3 c3 A4 c4 none)
  have KR := blk_new W (rObj v A3 c3 A4 c4 none)
  obtain ⟨y0, y1, y2, y3, y4, -⟩ := cells_5 (blk_below HK1.out hb2)
  have HB2 := Aside0.mk (below_step HB1.out hb2)
  have K2 := blk_below HK2.out hb2
  clear hb2 HK1 HB1
  obtain ⟨br, hbr⟩ : ∃ b, W.heap.size = b := ⟨_, rfl⟩
  have Hbr : Aside0 (br ≠ b1 + 1) := ⟨by have := blk_lt HK2.out; omega⟩
  generalize W.alloc (rObj v A3 c3 A4 c4 none) = W2 at KR y0 y1 y2 y3 y4 HB2 K2 ⊢
  rw [hbr] at KR ⊢
  clear hbr HK2
  have hck := vchk_any v.k v.t v.n v.i v.m A3 c3 A4 c4 W2 HF.out.1 (HV.out.below HB2.out).1 (HV.out.below HB2.out).2 HF.out.2
  go_wp2_with fail
  refine hck.mono ?_
  rintro e w3 ⟨rfl, hb⟩
  have HB3 := Aside0.mk (below_step HB2.out hb)
  have HR3 : Aside0 (Rounds w3 (fun q => q ≠ b1 + 1) (some ⟨br, 0, none⟩) [v]) := ⟨⟨br, A3, c3, A4, c4, none, rfl, Hbr.out, blk_below KR hb, ((RV.of_rd HV.out).below HB3.out).mono (fun q hq => by have := Hb1.out; omega), rfl⟩⟩
  have HK3 := Aside0.mk (blk_below K2 hb)
  clear hck hb KR K2 HB2 y0 y1 y2 y3 y4
  have hvk : chkV v.k v.t v.n v.i v.m = v.ok := rfl
  rw [hvk]
  clear hvk
  obtain ⟨yy, hy⟩ : ∃ y : Int, (if v.ok = true then 0 else 2) = y := ⟨_, rfl⟩
  rw [hy]
  obtain ⟨gd, hgd⟩ : ∃ b, (v.ok && l.list.all Val.ok) = b := ⟨_, rfl⟩
  have HY : Aside0 ((yy = 0 ∨ yy = 2) ∧ (yy == 0 && (l.drop 0).list.all Val.ok) = gd) := ⟨by rw [Vals.drop_zero, ← hgd, ← hy]; cases v.ok <;> simp⟩
  have HGD := Aside0.mk hgd
  clear hy hgd
  go_wp2
  go_loopw [8, 9, 20] (fun s8 s9 s20 wr => ∃ (j : Nat) (rd : List Val) (ar : Option Addr) (y : Int), s8 = .pointer ar ∧ s9 = .int .i64 y ∧ s20 = .int .i64 j ∧ j ≤ l.len ∧ Aside0 ((y = 0 ∨ y = 2) ∧ (y == 0 && (l.drop j).list.all Val.ok) = gd) ∧ Aside0 ((l.drop j).list.reverse ++ rd = l.list.reverse ++ [v]) ∧ Aside0 (Rounds wr (fun q => q ≠ b1 + 1) ar rd) ∧ Aside0 (Below w.heap.size w wr) ∧ Aside0 (wr.heap[b1 + 1]? = some zObj)) (fun _ _ v _ => l.len - (intOf v).toNat)
  case atStart => exact ⟨0, [v], _, yy, rfl, rfl, rfl, Nat.zero_le _, HY, ⟨by rw [Vals.drop_zero]⟩, HR3, HB3, HK3⟩
  case round =>
    clear HY HR3 HB3 HK3
    obtain ⟨j, rd, ar, y, rfl, rfl, rfl, hj, HY, HRD, HR, HB, HK⟩ := hrel
    cases hd : l.drop j with
    | nil =>
      have h1 := Vals.drop_nil hd
      obtain rfl : j = l.len := by omega
      have hrd := HRD.out
      rw [hd] at hrd
      have hrd : rd = l.list.reverse ++ [v] := hrd
      subst hrd
      have hyy := HY.out
      rw [hd] at hyy
      simp only [Vals.list, List.all_nil, Bool.and_true] at hyy
      obtain ⟨hy1, hy2⟩ := hyy
      clear hd
      have hle1 : w.heap.size ≤ b1 + 1 := by have := Hb1.out; omega
      obtain ⟨z0, z1, z2, z3, z4, f0, f1, f2, f3, f4⟩ := cells_5 HK.out
      rcases hy1 with rfl | rfl
      · have hgd : gd = true := by rw [← hy2]; rfl
        have HO2 : Aside0 (meansP path (l.list.reverse ++ [v]) = o) := ⟨by rw [← HO.out]; unfold MeansP; rw [HGD.out, if_pos hgd]⟩
        have hfind := rfind_any ar (l.list.reverse ++ [v]) (fun q => q ≠ b1 + 1) Ap cp path wr (by simp) HR.out (fun x hx => by
          rcases List.mem_append.1 hx with h | h
          · exact Vals.list_fit l HS.out hc x (List.mem_reverse.1 h)
          · rw [List.mem_singleton.1 h]; exact HF.out) (RdS.below HP.out HB.out) hp
        clear hy2 hgd
        go_wp2_with fail
        refine hfind.mono ?_
        rintro e w4 hret
        obtain ⟨hb4, x, kk, E3, f3', E4, f4', rfl, hres⟩ := hret.uni
        have K4 := blk_below HK.out hb4
        have hlt : b1 + 1 < wr.heap.size := blk_lt HK.out
        have HB4 := Aside0.mk (below_step HB.out hb4)
        have HRes := Aside0.mk hres
        clear z0 z1 z2 z3 z4 f0 f1 f2 f3 f4 hfind hret hb4 hres
        obtain ⟨z0, z1, z2, z3, z4, f0, f1, f2, f3, f4⟩ := cells_5 K4
        go_wp2
        refine bodyPost_ret (results_ct rfl _ _ (b1 + 1) 43 #[.int .u8 x.k, .string (bs x.t), .int .i64 x.n, .slice E3 x.i.len f3', .slice E4 x.m.length f4'] (0, 0) _ rfl (put5_blk K4) Tryz.underlying43 rfl (by kernel_rfl)) rfl ?_
        refine ResV.ret (ok := fun q => q ≠ b1 + 1 ∨ wr.heap.size ≤ q) (ResV.step (HO2.out ▸ HRes.out) (fun q hq _ => put5_far (fun e => ?_))) (put5_below HB4.out hle1) (fun q hq => .inl trivial)
        rcases hq with hq | hq
        · exact hq e
        · omega
      · have hgd : gd = false := by rw [← hy2]; rfl
        have ho : Except.error 2 = o := by rw [← HO.out]; unfold MeansP; rw [HGD.out, if_neg (by rw [hgd]; decide)]
        subst ho
        clear hy2 hgd
        have hlt : b1 + 1 < wr.heap.size := blk_lt HK.out
        go_wp2
        refine bodyPost_ret (results_ct rfl _ _ (b1 + 1) 43 #[.int .u8 0, .string ⟨#[]⟩, .int .i64 0, .slice none 0 0, .slice none 0 0] (0, 0) _ rfl (put5_blk HK.out) Tryz.underlying43 rfl (by kernel_rfl)) rfl ?_
        exact ⟨put5_below HB.out hle1, rfl⟩
    | cons k' t' n' i' m' r' =>
      obtain ⟨ad, A3', c3', A4', c4', rfl, y0, y1, y2, y3, y4, hF3, hF4⟩ := (HL.out.below HB.out).at hd
      obtain ⟨h1, h2, _⟩ := Vals.drop_step hd
      have hfx : (⟨k', t', n', i', m'⟩ : Val).fit := Vals.list_fit l HS.out hc _ (by
        have hmem : ∀ (l : Vals) (j : Nat) {k t n i m r}, l.drop j = .cons k t n i m r → (⟨k, t, n, i, m⟩ : Val) ∈ l.list := by
          intro l
          induction l with
          | nil => intro j k t n i m r h; cases j <;> simp [Vals.drop] at h
          | cons k t n i m r _ ih =>
            intro j k t n i m r h
            cases j with
            | zero => simp only [Vals.drop, Vals.cons.injEq] at h; obtain ⟨rfl, rfl, rfl, rfl, rfl, rfl⟩ := h; exact List.mem_cons_self
            | succ j => exact List.mem_cons_of_mem _ (ih j h)
        exact hmem l j hd)
      have hbn := below_alloc (Below.refl wr.heap.size wr) (vBox k' t' n' A3' i'.len c3' A4' m'.length c4')
      have BKn := blk_new wr (vBox k' t' n' A3' i'.len c3' A4' m'.length c4')
      have HBn := Aside0.mk (below_step HB.out hbn)
      have HRn := Aside0.mk (HR.out.below hbn)
      have HKn := Aside0.mk (blk_below HK.out hbn)
      have hRV : RV wr (fun q => q < w.heap.size) ⟨k', t', n', i', m'⟩ A3' c3' A4' c4' := ⟨hF3, hF4⟩
      have HVn := Aside0.mk (hRV.below hbn)
      have HD := Aside0.mk hd
      have H2 := Aside0.mk h2
      have HFx := Aside0.mk hfx
      clear hd h2 hF3 hF4 hbn hRV hfx
      go_upto_region 6 with (fail)
      clear y0 y1 y2 y3 y4
      generalize wr.alloc (vBox k' t' n' A3' i'.len c3' A4' m'.length c4') = W1 at BKn HBn HRn HKn HVn ⊢
      generalize wr.heap.size = gx at BKn ⊢
      obtain ⟨y0, y1, y2, y3, y4, -⟩ := cells_5 BKn
      have hck := vchk_any k' t' n' i' m' A3' c3' A4' c4' W1 HFx.out.1 HVn.out.rd.1 HVn.out.rd.2 HFx.out.2
      go_wp2_with fail
      with_reducible refine hck.mono ?_
      rintro e w4 ⟨rfl, hb⟩
      have K4 := blk_below BKn hb
      have HB4 := Aside0.mk (below_step HBn.out hb)
      have HR4 := Aside0.mk (HRn.out.below hb)
      have HK4 := Aside0.mk (blk_below HKn.out hb)
      have HV4 := Aside0.mk (HVn.out.below hb)
      clear BKn y0 y1 y2 y3 y4 hck hb HBn HRn HKn HVn HB HR HK
      obtain ⟨y0, y1, y2, y3, y4, -⟩ := cells_5 K4
      clear K4
      have hbr := below_alloc (Below.refl w4.heap.size w4) (rObj ⟨k', t', n', i', m'⟩ A3' c3' A4' c4' ar)
      have HE1 : Aside0 (Rounds (w4.alloc (rObj ⟨k', t', n', i', m'⟩ A3' c3' A4' c4' ar)) (fun q => q ≠ b1 + 1) (some ⟨w4.heap.size, 0, none⟩) (⟨k', t', n', i', m'⟩ :: rd)) := ⟨⟨_, A3', c3', A4', c4', ar, rfl, by have := blk_lt HK4.out; omega, blk_new _ _, (HV4.out.below hbr).mono (fun q hq => by have := Hb1.out; omega), HR4.out.below hbr⟩⟩
      have HE2 := Aside0.mk (below_step HB4.out hbr)
      have HE3 := Aside0.mk (blk_below HK4.out hbr)
      have HE4 : Aside0 ((l.drop (j + 1)).list.reverse ++ (⟨k', t', n', i', m'⟩ :: rd) = l.list.reverse ++ [v]) := ⟨by rw [← HRD.out, HD.out, H2.out]; simp [Vals.list]⟩
      have HY2 : Aside0 ((y == 0 && (chkV k' t' n' i' m' && (l.drop (j + 1)).list.all Val.ok)) = gd) := ⟨by rw [← HY.out.2, HD.out, H2.out]; rfl⟩
      have hy1 := HY.out.1
      cases hok : chkV k' t' n' i' m' with
      | true =>
        have HY3 : Aside0 ((y = 0 ∨ y = 2) ∧ (y == 0 && (l.drop (j + 1)).list.all Val.ok) = gd) := ⟨hy1, by rw [← HY2.out, hok]; rfl⟩
        clear hok hy1
        go_wp2_with fail
        go_roundw
        case rel => exact ⟨j + 1, ⟨k', t', n', i', m'⟩ :: rd, _, y, rfl, rfl, by simp, by omega, HY3, HE4, HE1, HE2, HE3⟩
        case measure => simp [intOf]; omega
      | false =>
        have HY3 : Aside0 (((2 : Int) = 0 ∨ (2 : Int) = 2) ∧ ((2 : Int) == 0 && (l.drop (j + 1)).list.all Val.ok) = gd) := ⟨.inr rfl, by rw [← HY2.out, hok]; simp⟩
        clear hok hy1
        go_wp2_with fail
        go_roundw
        case rel => exact ⟨j + 1, ⟨k', t', n', i', m'⟩ :: rd, _, 2, rfl, rfl, by simp, by omega, ⟨⟨.inr rfl, HY3.out.2⟩⟩, HE4, HE1, HE2, HE3⟩
        case measure => simp [intOf]; omega
end Go.Proofs.YtniibpndgcndbaaGreatDoor.Tpl
namespace Go.Proofs.YtniibpndgcndbaaGreatDoor.Tpl
open Go.RowKit Go.Proofs Go.Proofs.YtniibpndgcndbaaGreatDoor.PB Go.Proofs.YtniibpndgcndbaaGreatDoor.Short Go.Proofs.YtniibpndgcndbaaGreatDoorW.PrintWords Go.Proofs.YtniibpndgcndbaaGreatDoorW.PrintLast Go.Proofs.YtniibpndgcndbaaGreatDoorW.PrintMore
abbrev kY : Kd (List Value) := Kd.raw 5
theorem rowsOfV {w : World} {A : Option Addr} {c : Nat} {l : Vals} (h : Vals.Rd w A c l) : ∃ rows : List (List Value), rows.length = l.len ∧ Kd.C kY w A l.len rows ∧ ∀ (j : Nat) x r, l.of[j]? = some x → rows[j]? = some r → kV.K w x r := by
  obtain ⟨news, h1, h2, h3⟩ := Kd.reads_raw (Rr := kV.K w) (sz := 5) (W := w) (m := l.len) (A := A) (ys := l.of) h.1 (fun x c hx => ⟨kV.K_len hx, kV.K_one hx⟩)
  exact ⟨news, by rw [h1, Vals.of_len], h2, h3⟩
theorem rowsCV {w : World} {A : Option Addr} {xs : List SV} {rows : List (List Value)} {n : Nat} (h : Kd.C kY w A n rows) (hl : rows.length = xs.length) (hk : ∀ (j : Nat) x r, xs[j]? = some x → rows[j]? = some r → kV.K w x r) : kV.C w A n xs := by
  refine ⟨by rw [← hl]; exact h.1, h.2.1, fun hn => ?_⟩
  obtain ⟨ad, e, hc⟩ := h.2.2 hn
  refine ⟨ad, e, fun j x hx => ?_⟩
  have hj : j < rows.length := by rw [hl]; exact (List.getElem?_eq_some_iff.1 hx).1
  obtain ⟨c, h1, ⟨h2, _⟩, h3⟩ := hc j _ (List.getElem?_eq_getElem hj)
  subst h2
  exact ⟨_, h1, hk j x _ hx (List.getElem?_eq_getElem hj), h3⟩
theorem appV_of (x y : Vals) : (x.app y).of = x.of ++ y.of := by
  induction x with
  | nil => rfl
  | cons k t n i m r _ ih => simp only [Vals.app, Vals.of, ih, List.cons_append]
theorem appV_len (x y : Vals) : (x.app y).len = x.len + y.len := by
  induction x with
  | nil => simp [Vals.app, Vals.len]
  | cons k t n i m r _ ih => simp only [Vals.app, Vals.len, ih]; omega
theorem appV_sm (x y : Vals) (hx : x.sm) (hy : y.sm) : (x.app y).sm := by
  induction x with
  | nil => exact hy
  | cons k t n i m r _ ih => exact ⟨hx.1, hx.2.1, hx.2.2.1, hx.2.2.2.1, hx.2.2.2.2.1, hx.2.2.2.2.2.1, hx.2.2.2.2.2.2.1, ih hx.2.2.2.2.2.2.2⟩
theorem appV_list (x y : Vals) : (x.app y).list = x.list ++ y.list := by
  induction x with
  | nil => rfl
  | cons k t n i m r _ ih => simp only [Vals.app, Vals.list, ih, List.cons_append]
abbrev vCells (v : Val) (A3 : Option Addr) (c3 : Nat) (A4 : Option Addr) (c4 : Nat) : List Value := [.int .u8 v.k, .string (bs v.t), .int .i64 v.n, .slice A3 v.i.len c3, .slice A4 v.m.length c4]
theorem vK {w : World} {v : Val} {A3 : Option Addr} {c3 : Nat} {A4 : Option Addr} {c4 : Nat} (hR : RdV w v A3 c3 A4 c4) : kV.K w (⟨(v.k : Nat), bs v.t, v.n, Vals.of v.i, v.m.map bs⟩ : SV) (vCells v A3 c3 A4 c4) := by
  have := k43_mk w (⟨(v.k : Nat), bs v.t, v.n, Vals.of v.i, v.m.map bs⟩ : SV) (A3 := A3) (c3 := c3) (by simpa [Vals.of_len] using hR.1.2) (by simpa [Vals.of_len] using hR.1.1) (A4 := A4) (c4 := c4) (by simpa using hR.2.2) (by simpa using hR.2.1)
  simpa [Vals.of_len] using this
theorem litV (W : World) (v : Val) (A3 : Option Addr) (c3 : Nat) (A4 : Option Addr) (c4 : Nat) : Kd.R kY 43 (W.alloc (vObj v.k v.t v.n v.i v.m A3 c3 A4 c4)) W.heap.size (fun _ => True) (.slice (some ⟨W.heap.size, 0, none⟩) 1 1) [vCells v A3 c3 A4 c4] := by
  have h2 := World.ownsRow_lit (base := W.heap.size) (e := 43) (size := 5) W (vCells v A3 c3 A4 c4).toArray 1 (Nat.le_refl _) (by simp [maxLen]) (by simp)
  refine ⟨fun _ _ => trivial, _, h2, rfl, fun j p h => ?_⟩
  cases j with
  | succ j => simp at h
  | zero =>
    simp at h
    subst h
    have e : List.take kY.sz (List.drop (0 * kY.sz) (vCells v A3 c3 A4 c4)) = vCells v A3 c3 A4 c4 := rfl
    refine ⟨e, rfl, fun u hu => ?_⟩
    have hu : u ∈ vCells v A3 c3 A4 c4 := e ▸ hu
    simp only [vCells, List.mem_cons, List.not_mem_nil, or_false] at hu
    rcases hu with rfl | rfl | rfl | rfl | rfl <;> rfl
theorem info_val : (Tryz.prog.info? 43).map (fun i => (i.zero, i.size, i.bytes)) = some (some (.agg #[.int .u8 0, .string ⟨#[]⟩, .int .i64 0, .slice none 0 0, .slice none 0 0]), 5, 80) := by kernel_rfl
theorem blkV {n : Nat} (h : n ≤ 2097153) : n * 80 ≤ 140737488355328 := by omega
theorem joinedV {w2 : World} {base : Nat} {x : Vals} {rows : List (List Value)} {v2 : Value} (hlen : rows.length = x.len)
    (hk : ∀ (j : Nat) y r, x.of[j]? = some y → rows[j]? = some r → kV.K w2 y r)
    (hR : Kd.R kY 43 w2 base (fun _ => True) v2 rows) :
    ∃ Ax cx, v2 = .slice Ax x.len cx ∧ Vals.Rd w2 Ax cx x := by
  obtain ⟨Ax, cx, e, hl, hC⟩ := Kd.R_reads hR
  refine ⟨Ax, cx, by rw [e, hlen], ?_, by rw [← hlen]; exact hl⟩
  rw [hlen] at hC
  exact rowsCV hC (by rw [hlen, Vals.of_len]) hk
theorem kV_app {w1 w2 : World} {a b : Vals} {ra rb : List (List Value)} (hra : ra.length = a.len) (hb : Below w1.heap.size w1 w2)
    (hka : ∀ (j : Nat) x r, a.of[j]? = some x → ra[j]? = some r → kV.K w1 x r) (hkb : ∀ (j : Nat) x r, b.of[j]? = some x → rb[j]? = some r → kV.K w1 x r) :
    ∀ (j : Nat) x r, (a.app b).of[j]? = some x → (ra ++ rb)[j]? = some r → kV.K w2 x r := by
  intro j x r hx hr
  rw [appV_of] at hx
  by_cases h1 : j < ra.length
  · rw [List.getElem?_append_left (by rw [Vals.of_len, ← hra]; exact h1)] at hx
    rw [List.getElem?_append_left h1] at hr
    exact kV.K_below hb (hka j x r hx hr)
  · rw [List.getElem?_append_right (by rw [Vals.of_len, ← hra]; omega), Vals.of_len, ← hra] at hx
    rw [List.getElem?_append_right (by omega)] at hr
    exact kV.K_below hb (hkb _ x r hx hr)
theorem kV_one {w : World} {v : Val} {A3 : Option Addr} {c3 : Nat} {A4 : Option Addr} {c4 : Nat} (hR : RdV w v A3 c3 A4 c4) : ∀ (j : Nat) x r, v.one.of[j]? = some x → [vCells v A3 c3 A4 c4][j]? = some r → kV.K w x r := by
  intro j x r hx hr
  cases j with
  | succ j => simp at hr
  | zero =>
    simp [Val.one, Vals.of] at hx
    simp at hr
    subst hx hr
    exact vK hR
end Go.Proofs.YtniibpndgcndbaaGreatDoor.Tpl
namespace Go.Proofs.YtniibpndgcndbaaGreatDoor.Tpl
open Go.RowKit Go.Proofs Go.Proofs.YtniibpndgcndbaaGreatDoor.PB Go.Proofs.YtniibpndgcndbaaGreatDoor.Short Go.Proofs.YtniibpndgcndbaaGreatDoorW.PrintWords Go.Proofs.YtniibpndgcndbaaGreatDoorW.PrintLast Go.Proofs.YtniibpndgcndbaaGreatDoorW.PrintMore Vals
theorem Res9.step {o : Except Int Val} {B : Nat} {w w1 : World} {x : Val} {k : Int} {E3 : Option Addr} {f3 : Nat} {E4 : Option Addr} {f4 : Nat} (h : Res9 o B w x k E3 f3 E4 f4) (hm : ∀ q, B ≤ q → q < w.heap.size → w1.heap[q]? = w.heap[q]?) : Res9 o B w1 x k E3 f3 E4 f4 := ⟨(h.1.step hm).mono (fun _ hq => hq.1), h.2⟩
theorem Res9.lower {o : Except Int Val} {B B' : Nat} {w : World} {x : Val} {k : Int} {E3 : Option Addr} {f3 : Nat} {E4 : Option Addr} {f4 : Nat} (h : Res9 o B w x k E3 f3 E4 f4) (hB : B' ≤ B) : Res9 o B' w x k E3 f3 E4 f4 := ⟨h.1.mono (fun _ hq => Nat.le_trans hB hq), h.2⟩
theorem res9_err (j : Int) (B : Nat) (w : World) : Res9 (.error j) B w Val.zero j none 0 none 0 := ⟨rv_zero _ _, rfl, rfl⟩
def UpMid9 (o : Except Int Val) (wr : World) (s6 s7 : Value) (wx : World) : Prop :=
  ∃ bx x k E3 f3 E4 f4, s6 = .pointer (some ⟨bx, 0, none⟩) ∧ s7 = .int .i64 k ∧ wx.heap[bx]? = some (vObj x.k x.t x.n x.i x.m E3 f3 E4 f4) ∧ Res9 o wr.heap.size wx x k E3 f3 E4 f4 ∧ Below wr.heap.size wr wx
theorem up9_new {o : Except Int Val} {wr V w2 : World} {x : Val} {k : Int} {E3 : Option Addr} {f3 : Nat} {E4 : Option Addr} {f4 : Nat} (hV : Below wr.heap.size wr V) (hb : Below V.heap.size V w2) (h : Res9 o V.heap.size w2 x k E3 f3 E4 f4) :
    UpMid9 o wr (.pointer (some ⟨w2.heap.size, 0, none⟩)) (.int .i64 k) (w2.alloc (vObj x.k x.t x.n x.i x.m E3 f3 E4 f4)) := by
  have hb2 := below_alloc (Below.refl w2.heap.size w2) (vObj x.k x.t x.n x.i x.m E3 f3 E4 f4)
  exact ⟨w2.heap.size, x, k, E3, f3, E4, f4, rfl, rfl, blk_new _ _, (h.step (fun q _ hq => hb2.block q hq)).lower hV.size, below_step hV (below_step hb hb2)⟩
theorem up9_old {o : Except Int Val} {wr V w2 : World} {bx : Nat} {x : Val} {k : Int} {E3 : Option Addr} {f3 : Nat} {E4 : Option Addr} {f4 : Nat} (hV : Below wr.heap.size wr V) (hb : Below V.heap.size V w2) (h : Res9 o V.heap.size w2 x k E3 f3 E4 f4)
    (hz : V.heap[bx]? = some zObj) (hx : wr.heap.size ≤ bx) :
    UpMid9 o wr (.pointer (some ⟨bx, 0, none⟩)) (.int .i64 k) (put5 w2 bx 0 (.int .u8 x.k) (.string (bs x.t)) (.int .i64 x.n) (.slice E3 x.i.len f3) (.slice E4 x.m.length f4)) := by
  have hlt := blk_lt hz
  exact ⟨bx, x, k, E3, f3, E4, f4, rfl, rfl, put5_blk (blk_below hz hb), (h.step (fun q hq _ => put5_far (fun e => by omega))).lower hV.size, put5_below (below_step hV hb) hx⟩
theorem list_drop_take {l : Vals} : ∀ {j : Nat} {k t n i m r}, l.drop j = cons k t n i m r → l.list.take (j + 1) = l.list.take j ++ [⟨k, t, n, i, m⟩] := by
  induction l with
  | nil => intro j k t n i m r h; cases j <;> simp [Vals.drop] at h
  | cons k' t' n' i' m' r' _ ih =>
    intro j k t n i m r h
    cases j with
    | zero => simp only [Vals.drop, Vals.cons.injEq] at h; obtain ⟨rfl, rfl, rfl, rfl, rfl, rfl⟩ := h; simp [Vals.list]
    | succ j => simp only [Vals.list, List.take_succ_cons, ih h, List.cons_append]
theorem list_len (l : Vals) : l.list.length = l.len := by
  induction l with
  | nil => rfl
  | cons k t n i m r _ ih => simp [Vals.list, Vals.len, ih]
theorem mem_list {l : Vals} : ∀ {j : Nat} {k t n i m r}, l.drop j = cons k t n i m r → (⟨k, t, n, i, m⟩ : Val) ∈ l.list := by
  intro j k t n i m r h
  have h1 := list_drop_take h
  have : (⟨k, t, n, i, m⟩ : Val) ∈ l.list.take (j + 1) := by rw [h1]; simp
  exact List.mem_of_mem_take this
set_option maxHeartbeats 2000000 in
set_option maxRecDepth 100000 in
theorem rmeans_any (path : List S) (Ap : Option Addr) (cp : Nat) (l : Vals) (Ai : Option Addr) (ci : Nat) (w : World) (hP : RdS w Ap cp path) (hp : path.length ≤ 1048576) (hs : l.sm) (hl : l.len ≤ 1048577) (hf : ∀ x, x ∈ l.list → x.fit) (hL : Vals.Rd w Ai ci l) :
    Calls Tryz.prog 63 #[.slice Ap path.length cp, .slice Ai l.len ci] w (Ret9 (meansP path l.list.reverse) w) := by
  obtain ⟨o, ho⟩ : ∃ o, meansP path l.list.reverse = o := ⟨_, rfl⟩
  rw [ho]
  have HO := Aside0.mk ho
  clear ho
  have hb1 := below_alloc (Below.refl w.heap.size w) zBox
  have BK1 := blk_new w zBox
  have HL := Aside0.mk (hL.below hb1)
  have HF := Aside0.mk hf
  have HP := Aside0.mk (RdS.below hP hb1)
  have HB1 := Aside0.mk hb1
  clear hL hf hP hb1 hs
  go_enter Tryz.func63, Tryz.ntmps63
  go_upto_region 1 with (fail)
  generalize w.alloc zBox = W at BK1 HL HP HB1 ⊢
  obtain ⟨b1, hb1⟩ : ∃ b, w.heap.size = b := ⟨_, rfl⟩
  have Hb1 := Aside0.mk hb1
  rw [hb1] at BK1 ⊢
  have hle1 : w.heap.size ≤ b1 := Nat.le_of_eq hb1
  clear hb1
  have HK1 := Aside0.mk BK1
  have hlt1 : b1 < W.heap.size := blk_lt BK1
  obtain ⟨z0, z1, z2, z3, z4, f0, f1, f2, f3, f4⟩ := cells_5 BK1
  clear BK1
  cases path with
  | nil =>
    have ho' : Except.error 3 = o := HO.out
    subst ho'
    go_wp2
    refine bodyPost_ret (results_ct rfl _ _ b1 43 #[.int .u8 0, .string ⟨#[]⟩, .int .i64 0, .slice none 0 0, .slice none 0 0] (0, 0) _ rfl (put5_blk HK1.out) Tryz.underlying43 rfl (by kernel_rfl)) rfl ?_
    exact ⟨put5_below HB1.out hle1, Val.zero, 3, none, 0, none, 0, rfl, res9_err 3 _ _⟩
  | cons s p =>
    obtain ⟨bp, op, rfl, hcs⟩ := cellS HP.out 0 (by simp)
    simp only [Nat.add_zero, List.getD_cons_zero] at hcs
    have hpl : (0 : Int) < (((s :: p).length : Nat) : Int) := by simp
    have hpn : 0 < (s :: p).length := by simp
    have HT := Aside0.mk (RdS.tail HP.out)
    have hcap : (s :: p).length ≤ cp := HP.out.2
    have hcp1 : (1 : Int) ≤ (cp : Int) := by simp at hcap; omega
    have hcpl : (((s :: p).length : Nat) : Int) ≤ (cp : Int) := by omega
    have hpp : p.length ≤ 1048576 := by simp at hp; omega
    obtain ⟨i0, hi, hz0, hz1, hz2⟩ := info_parts info_str
    have hcut := cut_from (P := Tryz.prog) 23 9 .i64 Tryz.underlying23 hi 1 hz1 (some ⟨bp, op, none⟩) (s :: p).length cp 1 (by omega) (by simp; omega)
    obtain ⟨X, hX⟩ : ∃ X, (if cp = 1 then some ⟨bp, op, none⟩ else some ⟨bp, op + 1, none⟩ : Option Addr) = X := ⟨_, rfl⟩
    have hX' : (if cp = (1 : Int).toNat then (some ⟨bp, op, none⟩ : Option Addr) else (some ⟨bp, op, none⟩ : Option Addr).map (·.add ((1 : Int).toNat * 1))) = X := by
      rw [← hX]
      have e : (⟨bp, op, none⟩ : Addr).add 1 = ⟨bp, op + 1, none⟩ := add_at _ _ _
      show (if cp = 1 then _ else some ((⟨bp, op, none⟩ : Addr).add 1)) = _
      rw [e]
    rw [hX'] at hcut
    have hcut' : ∀ W : World, (Instr.slice 23 (.slice (some ⟨bp, op, none⟩) (s :: p).length cp) (some (.int .i64 1)) none none).run Tryz.prog W = .ok (.slice X p.length (cp - 1)) W := hcut
    rw [hX] at HT
    clear hcut hX hX' hi hz0 hz1 hz2 hcap
    generalize (s :: p).length = n at *
    have hn0 : ((n : Int) == 0) = false := by rw [beq_eq_false_iff_ne]; omega
    by_cases hs : s = thisS
    · have e0 : ((bs s).toList == [116, 104, 105, 115]) = true := by rw [bs_list, beq_iff_eq]; exact hs
      have HS := Aside0.mk hs
      clear hs
      by_cases h2 : l.len < 2
      · have e2 : decide (((l.len : Nat) : Int) < 2) = true := by rw [decide_eq_true_eq]; omega
        have ho' : Except.error 3 = o := by
          rw [← HO.out, HS.out]
          have := list_len l
          cases hll : l.list with
          | nil => rfl
          | cons x r =>
            cases r with
            | nil => exact (meansP_one p x).symm
            | cons y r => rw [hll] at this; simp at this; omega
        subst ho'
        go_wp2
        refine bodyPost_ret (results_ct rfl _ _ b1 43 #[.int .u8 0, .string ⟨#[]⟩, .int .i64 0, .slice none 0 0, .slice none 0 0] (0, 0) _ rfl (put5_blk HK1.out) Tryz.underlying43 rfl (by kernel_rfl)) rfl ?_
        exact ⟨put5_below HB1.out hle1, Val.zero, 3, none, 0, none, 0, rfl, res9_err 3 _ _⟩
      · have e2 : decide (((l.len : Nat) : Int) < 2) = false := by rw [decide_eq_false_iff_not]; omega
        obtain ⟨q, hq⟩ : ∃ q, l.len = q + 1 := ⟨l.len - 1, by omega⟩
        obtain ⟨k', t', n', i', m', hd⟩ := dropV_cases l q (by omega)
        obtain ⟨ad, A3, c3, A4, c4, rfl, y0, y1, y2, y3, y4, hR3, hR4⟩ := HL.out.at hd
        have hfit := HF.out _ (mem_list hd)
        have hRV : RdV W ⟨k', t', n', i', m'⟩ A3 c3 A4 c4 := ⟨hR3, hR4⟩
        have ho' : FindP ⟨k', t', n', i', m'⟩ p = o := by
          rw [← HO.out, HS.out]
          have h1 := list_drop_take hd
          rw [List.take_of_length_le (by rw [list_len]; omega)] at h1
          rw [h1, List.reverse_append]
          obtain ⟨q', rfl⟩ : ∃ q', q = q' + 1 := ⟨q - 1, by omega⟩
          obtain ⟨k2, t2, n2, i2, m2, hd2⟩ := dropV_cases l q' (by omega)
          rw [list_drop_take hd2, List.reverse_append]
          exact (meansP_this p _ _ _).symm
        have HO' := Aside0.mk ho'
        have hfd := fun V (hbv : Below W.heap.size W V) => rvfind_any ⟨k', t', n', i', m'⟩ A3 c3 A4 c4 X (cp - 1) p V hfit (hRV.below hbv) (RdS.below HT.out hbv) hpp
        clear hd hR3 hR4 hfit ho' hRV
        obtain ⟨ln, hln⟩ : ∃ ln, l.len = ln := ⟨_, rfl⟩
        rw [hln] at hq e2 hl ⊢
        subst hq
        have g1 : ((q + 1 : Nat) : Int) - 1 = (q : Int) := by omega
        have g2 : IntKind.i64.wrap (q : Int) = (q : Int) := by rw [i64_w]; unfold wrap64; omega
        have g3 : (q : Int) < ((q + 1 : Nat) : Int) := by omega
        go_upto_region 6 with (fail)
        go_region_with (go_at_call 90; refine (hfd _ ?_).mono ?_; exact (below_drew (Below.refl _ _)); rintro e w2 ⟨hb2, x2, k2, E3, f3', E4, f4', rfl, hrs⟩; have K2 := blk_below HK1.out (below_step (below_drew (Below.refl _ _)) hb2); obtain ⟨z0, z1, z2, z3, z4, f0, f1, f2, f3, f4⟩ := cells_5 K2; have hlt2 : b1 < w2.heap.size := blk_lt K2)
        all_goals
          go_wp2
          refine bodyPost_ret (results_ct rfl _ _ b1 43 #[.int .u8 x2.k, .string (bs x2.t), .int .i64 x2.n, .slice E3 x2.i.len f3', .slice E4 x2.m.length f4'] (0, 0) _ rfl (put5_blk K2) Tryz.underlying43 rfl (by kernel_rfl)) rfl ?_
          refine ⟨put5_below (below_step HB1.out (below_step (below_drew (Below.refl _ _)) hb2)) hle1, x2, k2, E3, f3', E4, f4', rfl, ((HO'.out ▸ hrs).step (fun q hq _ => put5_far (fun e => ?_))).lower ?_⟩
          · rw [World.size_drew] at hq; have := Hb1.out; omega
          · rw [World.size_drew]; have := HB1.out.size; omega
    · have e0 : ((bs s).toList == [116, 104, 105, 115]) = false := by rw [bs_list, beq_eq_false_iff_ne]; exact hs
      have HUP : Aside0 (upP s p (l.list.take l.len).reverse = o) := ⟨by rw [← HO.out, meansP_up hs, List.take_of_length_le (by rw [list_len]; exact Nat.le_refl _)]⟩
      have HPW := Aside0.mk HP.out
      have Hpn := Aside0.mk hpn
      clear hs HO
      go_upto_region 7 with (fail)
      have hwl : IntKind.i64.wrap ((l.len : Int) - 1) = (l.len : Int) - 1 := by rw [i64_w]; unfold wrap64; omega
      go_wp2
      go_loopw [6] (fun v wr => ∃ j : Nat, j ≤ l.len ∧ v = .int .i64 ((j : Int) - 1) ∧ Aside0 (upP s p (l.list.take j).reverse = o) ∧ Aside0 (wr.heap[b1]? = some zObj) ∧ Aside0 (Below W.heap.size W wr)) (fun v _ => (intOf v + 1).toNat)
      case atStart => exact ⟨l.len, Nat.le_refl _, rfl, HUP, HK1, ⟨Below.refl _ _⟩⟩
      case round =>
        clear z0 z1 z2 z3 z4 f0 f1 f2 f3 f4 HUP HK1 hwl
        obtain ⟨j, hj, rfl, HUP, HK1, HBW⟩ := hrel
        have K1 := HK1.out
        obtain ⟨z0, z1, z2, z3, z4, f0, f1, f2, f3, f4⟩ := cells_5 K1
        have hlt1 : b1 < wr.heap.size := blk_lt K1
        clear K1
        cases j with
        | zero =>
          have ho' : Except.error 3 = o := HUP.out
          subst ho'
          go_wp2
          refine bodyPost_ret (results_ct rfl _ _ b1 43 #[.int .u8 0, .string ⟨#[]⟩, .int .i64 0, .slice none 0 0, .slice none 0 0] (0, 0) _ rfl (put5_blk HK1.out) Tryz.underlying43 rfl (by kernel_rfl)) rfl ?_
          exact ⟨put5_below (below_step HB1.out HBW.out) hle1, Val.zero, 3, none, 0, none, 0, rfl, res9_err 3 _ _⟩
        | succ j =>
          obtain ⟨k', t', n', i', m', hd⟩ := dropV_cases l j (by omega)
          obtain ⟨ad, A3, c3, A4, c4, rfl, y0, y1, y2, y3, y4, hR3, hR4⟩ := (HL.out.below HBW.out).at hd
          obtain ⟨x, hx⟩ : ∃ x : Val, x = ⟨k', t', n', i', m'⟩ := ⟨_, rfl⟩
          have e1 : x.k = k' := by rw [hx]
          have e2 : x.t = t' := by rw [hx]
          have e3 : x.n = n' := by rw [hx]
          have e4 : x.i = i' := by rw [hx]
          have e5 : x.m = m' := by rw [hx]
          have hfit : x.fit := by rw [hx]; exact HF.out _ (mem_list hd)
          have hRV : RdV wr x A3 c3 A4 c4 := by rw [hx]; exact ⟨hR3, hR4⟩
          have HFit := Aside0.mk hfit
          rw [← e1] at y0
          rw [← e2] at y1
          rw [← e3] at y2
          rw [← e4] at y3
          rw [← e5] at y4
          have hcs' := pw_cell_below HBW.out hcs
          have HUP2 : Aside0 ((match FindP x [s] with | .ok y => FindP y p | .error _ => upP s p (l.list.take j).reverse) = o) := ⟨by
            rw [← HUP.out, list_drop_take hd, List.reverse_append, ← hx]; exact (upP_cons _ _ _ _).symm⟩
          have hfd : ∀ (V : World) (n : Nat), Below wr.heap.size wr V → V.heap[n]? = some (litB s) → Calls Tryz.prog 90 #[vAgg x A3 c3 A4 c4, .slice (some ⟨n, 0, none⟩) 1 1] V (Ret9 (FindP x [s]) V) := fun V n hbv hl => rvfind_any x A3 c3 A4 c4 (some ⟨n, 0, none⟩) 1 [s] V hfit (hRV.below hbv) (lit_at hl) (by simp)
          have BA : Aside0 ((wr.alloc (litB s)).drew.heap[wr.heap.size]? = some (litB s)) := ⟨blk_new wr (litB s)⟩
          have BB : Aside0 (((wr.alloc (litB s)).alloc zBox).drew.heap[wr.heap.size]? = some (litB s)) := ⟨blk_alloc (w := wr.alloc (litB s)) (blk_new wr (litB s)) zBox⟩
          have BC : Aside0 (((wr.alloc zBox).alloc (litB s)).drew.heap[wr.heap.size + 1]? = some (litB s)) := ⟨by have := blk_new (wr.alloc zBox) (litB s); rwa [World.size_alloc] at this⟩
          have BZ1 : Aside0 (((wr.alloc (litB s)).alloc zBox).drew.heap[wr.heap.size + 1]? = some zObj) := ⟨by have := blk_new (wr.alloc (litB s)) zBox; rwa [World.size_alloc] at this⟩
          have BZ2 : Aside0 (((wr.alloc zBox).alloc (litB s)).drew.heap[wr.heap.size]? = some zObj) := ⟨blk_alloc (w := wr.alloc zBox) (blk_new wr zBox) (litB s)⟩
          have BVA : Aside0 (Below wr.heap.size wr (wr.alloc (litB s)).drew) := ⟨below_drew (below_alloc (Below.refl _ _) _)⟩
          have BVB : Aside0 (Below wr.heap.size wr ((wr.alloc (litB s)).alloc zBox).drew) := ⟨below_drew (below_alloc (below_alloc (Below.refl _ _) _) _)⟩
          have BVC : Aside0 (Below wr.heap.size wr ((wr.alloc zBox).alloc (litB s)).drew) := ⟨below_drew (below_alloc (below_alloc (Below.refl _ _) _) _)⟩
          have KP : Aside0 (∀ w' : World, Below wr.heap.size wr w' → w'.cell? (ad.add (j * 5)) = some (.int .u8 x.k) ∧ w'.cell? ⟨(ad.add (j * 5)).block, (ad.add (j * 5)).off + 1, none⟩ = some (.string (bs x.t)) ∧ w'.cell? ⟨(ad.add (j * 5)).block, (ad.add (j * 5)).off + 2, none⟩ = some (.int .i64 x.n) ∧ w'.cell? ⟨(ad.add (j * 5)).block, (ad.add (j * 5)).off + 3, none⟩ = some (.slice A3 x.i.len c3) ∧ w'.cell? ⟨(ad.add (j * 5)).block, (ad.add (j * 5)).off + 4, none⟩ = some (.slice A4 x.m.length c4) ∧ w'.cell? ⟨bp, op, none⟩ = some (.string (bs s))) := ⟨fun w' h => ⟨pw_cell_below h y0, pw_cell_below h y1, pw_cell_below h y2, pw_cell_below h y3, pw_cell_below h y4, pw_cell_below h hcs'⟩⟩
          clear hR3 hR4 hd hRV hfit e1 e2 e3 e4 e5 hx
          have g1 : ((j + 1 : Nat) : Int) - 1 = (j : Int) := by omega
          have g3 : (j : Int) < (l.len : Int) := by omega
          rw [g1]
          go_upto_region 10 with (fail)
          try rw [hn0]
          go_cut [7, 8] (fun s6 s7 wx => UpMid9 (FindP x [s]) wr s6 s7 wx)
          case first =>
            go_region_held3 (fun w' => w'.cell? (ad.add (j * 5)) = some (.int .u8 x.k) ∧ w'.cell? ⟨(ad.add (j * 5)).block, (ad.add (j * 5)).off + 1, none⟩ = some (.string (bs x.t)) ∧ w'.cell? ⟨(ad.add (j * 5)).block, (ad.add (j * 5)).off + 2, none⟩ = some (.int .i64 x.n) ∧ w'.cell? ⟨(ad.add (j * 5)).block, (ad.add (j * 5)).off + 3, none⟩ = some (.slice A3 x.i.len c3) ∧ w'.cell? ⟨(ad.add (j * 5)).block, (ad.add (j * 5)).off + 4, none⟩ = some (.slice A4 x.m.length c4) ∧ w'.cell? ⟨bp, op, none⟩ = some (.string (bs s)))
              (first
                | with_reducible exact KP.out _ (put5_below hbd (Nat.le_refl _))
                | with_reducible exact KP.out _ (put5_below hbd (Nat.le_succ _))
                | with_reducible exact KP.out _ (by repeat first | exact hbd | exact Below.refl _ _ | refine below_drew ?_ | refine below_alloc ?_ _))
              (first
                | (go_at_call 90; (with_reducible refine (hfd (wr.alloc (litB s)).drew wr.heap.size BVA.out BA.out).mono ?_); rintro e w2 ⟨hb2, x2, k2, E3, f3', E4, f4', rfl, hrs⟩; have hbd := below_step BVA.out hb2)
                | (go_at_call 90; (with_reducible refine (hfd ((wr.alloc (litB s)).alloc zBox).drew wr.heap.size BVB.out BB.out).mono ?_); rintro e w2 ⟨hb2, x2, k2, E3, f3', E4, f4', rfl, hrs⟩; have hbd := below_step BVB.out hb2; obtain ⟨q0, q1, q2, q3, q4, r0, r1, r2, r3, r4⟩ := cells_5 (blk_below BZ1.out hb2))
                | (go_at_call 90; (with_reducible refine (hfd ((wr.alloc zBox).alloc (litB s)).drew (wr.heap.size + 1) BVC.out BC.out).mono ?_); rintro e w2 ⟨hb2, x2, k2, E3, f3', E4, f4', rfl, hrs⟩; have hbd := below_step BVC.out hb2; obtain ⟨q0, q1, q2, q3, q4, r0, r1, r2, r3, r4⟩ := cells_5 (blk_below BZ2.out hb2)))
            all_goals
              (go_wp2_with fail)
              go_meet
              first
                | with_reducible exact up9_new BVA.out hb2 hrs
                | with_reducible exact up9_old BVB.out hb2 hrs BZ1.out (Nat.le_succ _)
                | with_reducible exact up9_old BVC.out hb2 hrs BZ2.out (Nat.le_refl _)
                | skip
          case rest =>
            clear z0 z1 z2 z3 z4 f0 f1 f2 f3 f4 y0 y1 y2 y3 y4 hfd BA BB BC BZ1 BZ2 BVA BVB BVC
            obtain ⟨bx, x6, k6, E3, f3', E4, f4', rfl, rfl, hbx, hres, hBx⟩ := hcut
            rename World => wx
            have K1 := blk_below HK1.out hBx
            obtain ⟨z0, z1, z2, z3, z4, f0, f1, f2, f3, f4⟩ := cells_5 K1
            have HK1' := Aside0.mk K1
            have HBx := Aside0.mk hBx
            have hltx : b1 < wx.heap.size := blk_lt K1
            obtain ⟨x0, x1, x2, x3, x4, q0, q1, q2, q3, q4⟩ := cells_5 hbx
            clear K1 HK1 KP hbx q0 q1 q2 q3 q4
            cases hF : FindP x [s] with
            | ok y =>
              rw [hF] at hres HUP2
              obtain ⟨hv6, rfl, rfl⟩ := hres
              have HUP3 : Aside0 (FindP x6 p = o) := ⟨HUP2.out⟩
              have hft := fit_of (FindP_ok HFit.out.1 hF)
              have hfd := fun V (hbv : Below wx.heap.size wx V) => rvfind_any x6 E3 f3' E4 f4' X (cp - 1) p V hft ((hv6.below hbv).rd) (RdS.below HT.out (below_step HBW.out (below_step HBx.out hbv))) hpp
              clear hv6 HUP2 hft hF
              go_upto_region 12 with (fail)
              go_region_with (go_at_call 90; refine (hfd _ ?_).mono ?_; exact (below_drew (Below.refl _ _)); rintro e w2 ⟨hb2, x7, k7, E5, f5, E6, f6, rfl, hrs⟩; have K2 := blk_below HK1'.out (below_step (below_drew (Below.refl _ _)) hb2); obtain ⟨z0, z1, z2, z3, z4, f0, f1, f2, f3, f4⟩ := cells_5 K2; have hlt2 : b1 < w2.heap.size := blk_lt K2)
              all_goals
                go_wp2
                refine bodyPost_ret (results_ct rfl _ _ b1 43 #[.int .u8 x7.k, .string (bs x7.t), .int .i64 x7.n, .slice E5 x7.i.len f5, .slice E6 x7.m.length f6] (0, 0) _ rfl (put5_blk K2) Tryz.underlying43 rfl (by kernel_rfl)) rfl ?_
                refine ⟨put5_below (below_step HB1.out (below_step HBW.out (below_step HBx.out (below_step (below_drew (Below.refl _ _)) hb2)))) hle1, x7, k7, E5, f5, E6, f6, rfl, ((HUP3.out ▸ hrs).step (fun q hq _ => put5_far (fun e => ?_))).lower ?_⟩
                · rw [World.size_drew] at hq; omega
                · rw [World.size_drew]; have h1 := HB1.out.size; have h2 := HBW.out.size; have h3 := HBx.out.size; omega
            | error j' =>
              rw [hF] at hres HUP2
              obtain ⟨-, rfl, -⟩ := hres
              have HUP3 : Aside0 (upP s p (l.list.take j).reverse = o) := ⟨HUP2.out⟩
              have hk6 : (k6 == 0) = false := by rw [beq_eq_false_iff_ne]; rcases FindP_err hF with h | h <;> omega
              have hwj : IntKind.i64.wrap ((j : Int) - 1) = (j : Int) - 1 := by rw [i64_w]; unfold wrap64; omega
              clear HUP2 hF
              go_wp2
              go_roundw
              case measure => simp [intOf]
              case rel => exact ⟨j, by omega, rfl, HUP3, HK1', ⟨below_step HBW.out HBx.out⟩⟩
end Go.Proofs.YtniibpndgcndbaaGreatDoor.Tpl
namespace Go.Proofs.YtniibpndgcndbaaGreatDoor.Tpl
open Go.RowKit Go.Proofs Go.Proofs.YtniibpndgcndbaaGreatDoor.PB Go.Proofs.YtniibpndgcndbaaGreatDoor.Short Go.Proofs.YtniibpndgcndbaaGreatDoorW.PrintWords Go.Proofs.YtniibpndgcndbaaGreatDoorW.PrintLast Go.Proofs.YtniibpndgcndbaaGreatDoorW.PrintMore Nodes
attribute [local go_sem ↓] Go.wp_at_zero Go.wp_at_succ
def GE (w : World) (a : Addr) : Prop := w.cell? ⟨1, 0, none⟩ = some (errv a)
theorem GE.below {w w1 : World} {a : Addr} (h : GE w a) (hb : Below w.heap.size w w1) : GE w1 a := pw_cell_below hb h
def NRet (o : Option (Nodes × List Tok)) (a : Addr) (w0 W : World) (g : Nat) (e : Ending) (w' : World) : Prop :=
  KeepP (fun k => k = g) W w' ∧
  match o with
  | none => e = .returned (.tuple #[.slice none 0 0, errv a])
  | some (nd, r) => ∃ A c, e = .returned (.tuple #[.slice A nd.len c, .nilIface]) ∧ kN.R 37 w' W.heap.size (fun k => W.heap.size ≤ k) (.slice A nd.len c) nd.of ∧ PS w0 w' g r
def WRet (o : Option (Nodes × Nodes × List Tok)) (a : Addr) (w0 W : World) (g gn k : Nat) (t : S) (vp : Value) (e : Ending) (w' : World) : Prop :=
  KeepP (fun q => q = g ∨ q = gn) W w' ∧
  match o with
  | none => e = .returned (errv a)
  | some (x, y, r) => e = .returned .nilIface ∧ ∃ A3 c3 A4 c4, w'.heap[gn]? = some (.cells #[.int .u8 k, .string (bs t), vp, .slice A3 x.len c3, .slice A4 y.len c4] 37 (0, 0)) ∧
      kN.R 37 w' W.heap.size (fun k => W.heap.size ≤ k) (.slice A3 x.len c3) x.of ∧ kN.R 37 w' W.heap.size (fun k => W.heap.size ≤ k) (.slice A4 y.len c4) y.of ∧ PS w0 w' g r
def NAll (a : Addr) (w0 : World) (m : Nat) : Prop := ∀ (l : List Tok) (W : World) (g : Nat), l.length ≤ m → (∀ x, x ∈ l → x.sm) → PS w0 W g l → Calls Tryz.prog 144 #[.pointer (some ⟨g, 0, none⟩)] W (NRet (parse l) a w0 W g)
theorem PS.keep {w0 W W1 : World} {g : Nat} {l : List Tok} (h : PS w0 W g l) {ok : Nat → Prop} (hk : KeepP ok W W1) (hg : ¬ ok g) (hok : ∀ k, ok k → w0.heap.size ≤ k) : PS w0 W1 g l := by
  obtain ⟨A, c, h1, h2, h3, h4⟩ := h
  exact ⟨A, c, hk.blkOf h1 hg, h2, h3, h4.trans (hk.below hok h4.size)⟩
theorem PS.set {w0 W : World} {g gn j : Nat} {l : List Tok} (h : PS w0 W g l) (hg : g ≠ gn) (hb : w0.heap.size ≤ gn) (u : Value) : PS w0 (W.setCell ⟨gn, j, none⟩ u) g l := by
  obtain ⟨A, c, h1, h2, h3, h4⟩ := h
  exact ⟨A, c, blk_far h1 (p := ⟨gn, j, none⟩) hg u, h2, h3, below_set h4 hb⟩
theorem PS.below {w0 W : World} {g : Nat} {l : List Tok} (h : PS w0 W g l) : Below w0.heap.size w0 W := by obtain ⟨_, _, _, _, _, h4⟩ := h; exact h4
theorem PS.ge {w0 W : World} {g : Nat} {l : List Tok} (h : PS w0 W g l) : w0.heap.size ≤ g := by obtain ⟨_, _, _, h2, _⟩ := h; exact h2
theorem PS.lt {w0 W : World} {g : Nat} {l : List Tok} (h : PS w0 W g l) : g < W.heap.size := by obtain ⟨_, _, h1, _⟩ := h; exact blk_lt h1
theorem RN.keep {W W1 : World} {base : Nat} {v : Value} {l : List SN} {ok ok2 : Nat → Prop} (h : kN.R 37 W base ok v l) (hk : KeepP ok2 W W1) (hok : ∀ k, ok k → ¬ ok2 k) : kN.R 37 W1 base ok v l := Kd.R_step h (fun k ho hlt => hk.blk k hlt (hok k ho))
set_option maxHeartbeats 4000000 in
set_option maxRecDepth 100000 in
theorem within_any (a : Addr) (w0 : World) (hE : GE w0 a) (m : Nat) (hN : NAll a w0 m) (l : List Tok) (W : World) (g gn k : Nat) (t : S) (vp : Value) (hm : l.length ≤ m) (hmx : m ≤ 1048576) (hs : ∀ x, x ∈ l → x.sm) (hP : PS w0 W g l) (hne : g ≠ gn) (hgn : w0.heap.size ≤ gn) (hb : W.heap[gn]? = some (.cells #[.int .u8 k, .string (bs t), vp, .slice none 0 0, .slice none 0 0] 37 (0, 0))) :
    Calls Tryz.prog 176 #[.pointer (some ⟨g, 0, none⟩), .pointer (some ⟨gn, 0, none⟩)] W (WRet (within k l) a w0 W g gn k t vp) := by
  obtain ⟨o, ho⟩ : ∃ o, within k l = o := ⟨_, rfl⟩
  rw [ho]
  have HO := Aside0.mk ho
  have h1 := hN l W g hm hs hP
  have HE := Aside0.mk hE
  have HB := Aside0.mk hb
  have HN := Aside0.mk hN
  have HS := Aside0.mk hs
  have hgW : gn < W.heap.size := blk_lt hb
  have hgP : g < W.heap.size := hP.lt
  have HP := Aside0.mk hP
  have hgn0 := hP.ge
  clear ho hE hb hP hs hN
  unfold within withP at HO
  cases hp : parse l with
  | none =>
    rw [hp] at h1 HO
    obtain rfl : o = none := HO.out.symm
    clear hp
    go_enter Tryz.func176, Tryz.ntmps176
    go_wp2_with fail
    refine h1.mono ?_
    rintro e W1 ⟨hk, rfl⟩
    have BK := Aside0.mk (hk.blkOf HB.out (show ¬ gn = g from fun e => hne e.symm))
    have HK := Aside0.mk hk
    clear hk h1
    obtain ⟨z0, z1, z2, z3, z4, f0, f1, f2, f3, f4⟩ := cells_5 BK.out
    go_wp2
    go_ret
    exact ⟨KeepP.set (HK.out.mono fun _ h => .inl h) (.inl (.inr rfl)) _, rfl⟩
  | some x =>
    obtain ⟨x, r1⟩ := x
    rw [hp] at h1 HO
    have hl1 := parse_len hp
    have hs1 := (parse_sm hp HS.out (Nat.le_trans hm hmx)).2
    clear hp
    have HO1 : Aside0 ((if k = 3 ∧ headK r1 = 4 then (match parse r1.tail with | none => none | some (b, r2) => if headK r2 = 6 then some (x, b, r2.tail) else none) else if headK r1 = 6 then some (x, Nodes.nil, r1.tail) else none) = o) := ⟨HO.out⟩
    clear HO
    have HS1 := Aside0.mk hs1
    clear hs1
    go_enter Tryz.func176, Tryz.ntmps176
    go_wp2_with fail
    refine h1.mono ?_
    rintro e W1 ⟨hk, A3, c3, rfl, hR1, hP1⟩
    have BK := Aside0.mk (hk.blkOf HB.out (show ¬ gn = g from fun e => hne e.symm))
    have HK2 := Aside0.mk (KeepP.set (hk.mono (ok' := fun q => q = g ∨ q = gn) fun _ h => .inl h) (p := ⟨gn, 3, none⟩) (.inl (.inr rfl)) (.slice A3 x.len c3))
    have HP2 := Aside0.mk (hP1.set (j := 3) hne hgn (.slice A3 x.len c3))
    have HR2 := Aside0.mk (Kd.R_far hR1 (p := ⟨gn, 3, none⟩) (fun k hk e => by simp only at e; omega) (.slice A3 x.len c3))
    have BK2 := Aside0.mk (blk_put BK.out 3 (.slice A3 x.len c3) rfl)
    clear hk h1 hR1 hP1
    obtain ⟨z0, z1, z2, z3, z4, f0, f1, f2, f3, f4⟩ := cells_5 BK.out
    go_upto_region 5 with (fail)
    clear z0 z1 z2 z3 z4 f0 f1 f2 f3 f4 BK HB HP
    generalize W1.setCell ⟨gn, 3, none⟩ (.slice A3 x.len c3) = W2 at *
    obtain ⟨z0, z1, z2, z3, z4, f0, f1, f2, f3, f4⟩ := cells_5 BK2.out
    have hi4 := is_any w0 W2 g r1 4 (by decide) HP2.out
    by_cases c34 : k = 3 ∧ headK r1 = 4
    · obtain ⟨rfl, h4⟩ := c34
      cases hr1 : r1 with
      | nil => rw [hr1] at h4; simp [headK] at h4
      | cons t1 q1 =>
        subst hr1
        have h4b : (headK (t1 :: q1) == 4) = true := by rw [beq_iff_eq]; exact h4
        have HO2 := HO1.out
        rw [if_pos ⟨rfl, h4⟩] at HO2
        simp only [List.tail_cons] at HO2
        rw [h4b] at hi4
        have htk := take_any w0 W2 g t1 q1 HP2.out
        have hlq : q1.length ≤ m := by simp only [List.length_cons] at hl1; omega
        have hsq : ∀ x, x ∈ q1 → x.sm := fun x hx => HS1.out x (by simp [hx])
        have HO3 := Aside0.mk HO2
        clear h4 h4b HO1 HO2
        go_wp2_with fail
        refine hi4.mono ?_
        rintro e w' ⟨rfl, rfl⟩
        go_wp2_with fail
        refine htk.mono ?_
        rintro e W3 ⟨A9, c9, rfl, _, _, hP3, hK3⟩
        have HK3 := Aside0.mk (HK2.out.trans (hK3.mono (ok' := fun q => q = g ∨ q = gn) fun _ h => .inl h))
        have BK3 := Aside0.mk (hK3.blkOf BK2.out (show ¬ gn = g from fun e => hne e.symm))
        have HR3 := Aside0.mk (RN.keep HR2.out hK3 (fun k hk e => by omega))
        have h2 := HN.out q1 W3 g hlq hsq hP3
        have hs3 := HK3.out.size
        clear hP3 hK3 hi4 htk z0 z1 z2 z3 z4 f0 f1 f2 f3 f4
        cases hp2 : parse q1 with
        | none =>
          rw [hp2] at h2 HO3
          obtain rfl : o = none := HO3.out.symm
          clear hp2
          go_wp2_with fail
          refine h2.mono ?_
          rintro e W4 ⟨hk, rfl⟩
          have BK4 := Aside0.mk (hk.blkOf BK3.out (show ¬ gn = g from fun e => hne e.symm))
          have HK4 := Aside0.mk (HK3.out.trans (hk.mono (ok' := fun q => q = g ∨ q = gn) fun _ h => .inl h))
          clear hk h2
          obtain ⟨z0, z1, z2, z3, z4, f0, f1, f2, f3, f4⟩ := cells_5 BK4.out
          go_wp2
          go_ret
          exact ⟨KeepP.set HK4.out (.inl (.inr rfl)) _, rfl⟩
        | some y =>
          obtain ⟨y, r2⟩ := y
          rw [hp2] at h2 HO3
          simp only at HO3
          clear hp2
          go_wp2_with fail
          refine h2.mono ?_
          rintro e W4 ⟨hk, A4, c4, rfl, hR4, hP4⟩
          have BK4 := Aside0.mk (hk.blkOf BK3.out (show ¬ gn = g from fun e => hne e.symm))
          have HK5 := Aside0.mk (KeepP.set (HK3.out.trans (hk.mono (ok' := fun q => q = g ∨ q = gn) fun _ h => .inl h)) (p := ⟨gn, 4, none⟩) (.inl (.inr rfl)) (.slice A4 y.len c4))
          have HP5 := Aside0.mk (hP4.set (j := 4) hne hgn (.slice A4 y.len c4))
          have HR5 := Aside0.mk (Kd.R_far (RN.keep HR3.out hk (fun k hk e => by omega)) (p := ⟨gn, 4, none⟩) (fun k hk e => by simp only at e; omega) (.slice A4 y.len c4))
          have HY5 := Aside0.mk (Kd.R_far (Kd.R_mono (Kd.R_lower hR4 hs3) (fun k hk => Nat.le_trans hs3 hk)) (p := ⟨gn, 4, none⟩) (fun k hk e => by simp only at e; omega) (.slice A4 y.len c4))
          have BK5 := Aside0.mk (blk_put BK4.out 4 (.slice A4 y.len c4) rfl)
          clear hk h2 hR4 hP4
          obtain ⟨z0, z1, z2, z3, z4, f0, f1, f2, f3, f4⟩ := cells_5 BK4.out
          go_upto_region 10 with (fail)
          clear z0 z1 z2 z3 z4 f0 f1 f2 f3 f4 BK4
          generalize W4.setCell ⟨gn, 4, none⟩ (.slice A4 y.len c4) = W5 at *
          have hge := HE.out.below HP5.out.below
          unfold GE at hge
          have hi6 := is_any w0 W5 g r2 6 (by decide) HP5.out
          cases h6 : (headK r2 == 6) with
          | false =>
            obtain rfl : o = none := by rw [← HO3.out, if_neg (by simpa using h6)]
            rw [h6] at hi6
            clear h6
            go_wp2_with fail
            refine hi6.mono ?_
            rintro e w' ⟨rfl, rfl⟩
            go_wp2
            go_ret
            exact ⟨HK5.out, rfl⟩
          | true =>
            cases hr2 : r2 with
            | nil => rw [hr2] at h6; simp [headK] at h6
            | cons t2 r3 =>
              obtain rfl : o = some (x, y, r3) := by rw [← HO3.out, if_pos (by simpa using h6), hr2]; rfl
              rw [h6] at hi6
              have htk := take_any w0 W5 g t2 r3 (hr2 ▸ HP5.out)
              clear h6 hr2
              go_wp2_with fail
              refine hi6.mono ?_
              rintro e w' ⟨rfl, rfl⟩
              go_wp2_with fail
              refine htk.mono ?_
              rintro e W9 ⟨A9, c9, rfl, _, _, hP9, hK9⟩
              have HP9 := Aside0.mk hP9
              have HK9 := Aside0.mk hK9
              clear hP9 hK9 hi6 htk
              go_wp2
              go_ret
              exact ⟨HK5.out.trans (HK9.out.mono fun _ h => .inl h), rfl, _, _, _, _, HK9.out.blkOf BK5.out (show ¬ gn = g from fun e => hne e.symm), RN.keep HR5.out HK9.out (fun k hk e => by omega), RN.keep HY5.out HK9.out (fun k hk e => by omega), HP9.out⟩
    · have HO2 := HO1.out
      rw [if_neg c34] at HO2
      have HO3 := Aside0.mk HO2
      clear HO1 HO2
      have hk3 : ((k : Int) == 3) = false ∨ (k = 3 ∧ (headK r1 == 4) = false) := by
        by_cases hk : k = 3
        · right; exact ⟨hk, by rw [beq_eq_false_iff_ne]; exact fun h => c34 ⟨hk, h⟩⟩
        · left; rw [beq_eq_false_iff_ne]; omega
      clear c34
      rcases hk3 with hk3 | ⟨rfl, hq4⟩
      · go_upto_region 10 with (fail)
        have hge := HE.out.below HP2.out.below
        unfold GE at hge
        have hi6 := is_any w0 W2 g r1 6 (by decide) HP2.out
        cases h6 : (headK r1 == 6) with
        | false =>
          obtain rfl : o = none := by rw [← HO3.out, if_neg (by simpa using h6)]
          rw [h6] at hi6
          clear h6
          go_wp2_with fail
          refine hi6.mono ?_
          rintro e w' ⟨rfl, rfl⟩
          go_wp2
          go_ret
          exact ⟨HK2.out, rfl⟩
        | true =>
          cases hr2 : r1 with
          | nil => rw [hr2] at h6; simp [headK] at h6
          | cons t2 r3 =>
            obtain rfl : o = some (x, Nodes.nil, r3) := by rw [← HO3.out, if_pos (by simpa using h6), hr2]; rfl
            rw [h6] at hi6
            have htk := take_any w0 W2 g t2 r3 (hr2 ▸ HP2.out)
            clear h6 hr2
            go_wp2_with fail
            refine hi6.mono ?_
            rintro e w' ⟨rfl, rfl⟩
            go_wp2_with fail
            refine htk.mono ?_
            rintro e W9 ⟨A9, c9, rfl, _, _, hP9, hK9⟩
            have HP9 := Aside0.mk hP9
            have HK9 := Aside0.mk hK9
            clear hP9 hK9 hi6 htk
            go_wp2
            go_ret
            exact ⟨HK2.out.trans (HK9.out.mono fun _ h => .inl h), rfl, _, _, _, _, HK9.out.blkOf BK2.out (show ¬ gn = g from fun e => hne e.symm), RN.keep HR2.out HK9.out (fun k hk e => by omega), Kd.R_nil _ _ _ _ _, HP9.out⟩
      · rw [hq4] at hi4
        clear hq4
        go_upto_region 10 with (go_at_call 174; refine hi4.mono ?_; rintro e w' ⟨rfl, rfl⟩)
        have hge := HE.out.below HP2.out.below
        unfold GE at hge
        have hi6 := is_any w0 W2 g r1 6 (by decide) HP2.out
        cases h6 : (headK r1 == 6) with
        | false =>
          obtain rfl : o = none := by rw [← HO3.out, if_neg (by simpa using h6)]
          rw [h6] at hi6
          clear h6
          go_wp2_with fail
          refine hi6.mono ?_
          rintro e w' ⟨rfl, rfl⟩
          go_wp2
          go_ret
          exact ⟨HK2.out, rfl⟩
        | true =>
          cases hr2 : r1 with
          | nil => rw [hr2] at h6; simp [headK] at h6
          | cons t2 r3 =>
            obtain rfl : o = some (x, Nodes.nil, r3) := by rw [← HO3.out, if_pos (by simpa using h6), hr2]; rfl
            rw [h6] at hi6
            have htk := take_any w0 W2 g t2 r3 (hr2 ▸ HP2.out)
            clear h6 hr2
            go_wp2_with fail
            refine hi6.mono ?_
            rintro e w' ⟨rfl, rfl⟩
            go_wp2_with fail
            refine htk.mono ?_
            rintro e W9 ⟨A9, c9, rfl, _, _, hP9, hK9⟩
            have HP9 := Aside0.mk hP9
            have HK9 := Aside0.mk hK9
            clear hP9 hK9 hi6 htk
            go_wp2
            go_ret
            exact ⟨HK2.out.trans (HK9.out.mono fun _ h => .inl h), rfl, _, _, _, _, HK9.out.blkOf BK2.out (show ¬ gn = g from fun e => hne e.symm), RN.keep HR2.out HK9.out (fun k hk e => by omega), Kd.R_nil _ _ _ _ _, HP9.out⟩
end Go.Proofs.YtniibpndgcndbaaGreatDoor.Tpl
namespace Go.Proofs.YtniibpndgcndbaaGreatDoor.Tpl
open Go.RowKit Go.Proofs Go.Proofs.YtniibpndgcndbaaGreatDoor.PB Go.Proofs.YtniibpndgcndbaaGreatDoor.Short Go.Proofs.YtniibpndgcndbaaGreatDoorW.PrintWords Go.Proofs.YtniibpndgcndbaaGreatDoorW.PrintLast Go.Proofs.YtniibpndgcndbaaGreatDoorW.PrintMore Nodes
attribute [local go_sem ↓] Go.wp_at_zero Go.wp_at_succ
theorem KeepP.trans2 {ok ok2 : Nat → Prop} {w w1 w2 : World} (h : KeepP ok w w1) (k : KeepP ok2 w1 w2) (hk : ∀ i, ok2 i → ok i ∨ w.heap.size ≤ i) : KeepP ok w w2 :=
  ⟨k.os.trans h.os, k.tape.trans h.tape, k.output.trans h.output, Nat.le_trans h.size k.size, fun i hi hn => (k.blk i (Nat.lt_of_lt_of_le hi h.size) (fun c => (hk i c).elim hn (fun h2 => by omega))).trans (h.blk i hi hn)⟩
theorem info_node : (Tryz.prog.info? 37).map (fun i => (i.zero, i.size, i.bytes)) = some (some (.agg #[.int .u8 0, .string ⟨#[]⟩, .slice none 0 0, .slice none 0 0, .slice none 0 0]), 5, 96) := by kernel_rfl
theorem app_len (x y : Nodes) : (x.app y).len = x.len + y.len := by
  induction x with
  | nil => simp [app, len]
  | cons k t p a b r _ _ ih => simp only [app, len, ih]; omega
theorem app_of (x y : Nodes) : (x.app y).of = x.of ++ y.of := by
  induction x with
  | nil => simp [app, of]
  | cons k t p a b r _ _ ih => simp [app, of, ih]
theorem app_nil (x : Nodes) : x.app nil = x := by
  induction x with
  | nil => rfl
  | cons k t p a b r _ _ ih => rw [app, ih]
theorem app_app (x y z : Nodes) : (x.app y).app z = x.app (y.app z) := by
  induction x with
  | nil => rfl
  | cons k t p a b r _ _ ih => rw [app, app, app, ih]
theorem app_cnt (x y : Nodes) : (x.app y).cnt = x.cnt + y.cnt := by
  induction x with
  | nil => simp [app, cnt]
  | cons k t p a b r _ _ ih => simp only [app, cnt, ih]; omega
set_option maxHeartbeats 4000000 in
set_option maxRecDepth 100000 in
theorem nodes_step (a : Addr) (w0 : World) (hE : GE w0 a) (m : Nat) (hmx : m ≤ 1048576) (hN : NAll a w0 m) (l : List Tok) (W : World) (g : Nat) (hm : l.length ≤ m + 1) (hs : ∀ x, x ∈ l → x.sm) (hP : PS w0 W g l) :
    Calls Tryz.prog 144 #[.pointer (some ⟨g, 0, none⟩)] W (NRet (parse l) a w0 W g) := by
  obtain ⟨o, ho⟩ : ∃ o, parse l = o := ⟨_, rfl⟩
  rw [ho]
  have HO := Aside0.mk ho
  have HE := Aside0.mk hE
  have HN := Aside0.mk hN
  have HS := Aside0.mk hs
  have hgW : g < W.heap.size := hP.lt
  have hg0 := hP.ge
  have HP := Aside0.mk hP
  clear ho hE hN hs hP
  go_enter Tryz.func144, Tryz.ntmps144
  go_wp2
  go_loopg [4] l.length (fun kq v4 wr => ∃ (r : List Tok) (acc : Nodes) (Aa : Option Addr) (ca : Nat), v4 = .slice Aa acc.len ca ∧ r.length = kq ∧ Aside0 (o = (parse r).map (fun z => (acc.app z.1, z.2))) ∧ Aside0 (acc.cnt + r.length ≤ l.length) ∧ Aside0 (∀ x, x ∈ r → x.sm) ∧ Aside0 (kN.R 37 wr W.heap.size (fun k => W.heap.size ≤ k) (.slice Aa acc.len ca) acc.of) ∧ Aside0 (PS w0 wr g r) ∧ Aside0 (KeepP (fun k => k = g) W wr))
  case atStart => exact ⟨l, .nil, none, 0, rfl, rfl, ⟨by rw [HO.out]; cases o <;> rfl⟩, ⟨by simp [cnt]⟩, HS, ⟨Kd.R_nil _ _ _ _ _⟩, HP, ⟨KeepP.refl _⟩⟩
  case round =>
    clear HP HO HS
    obtain ⟨r, acc, Aa, ca, rfl, rfl, HO, HC, HS, HR, HP, HK⟩ := hrel
    have hi4 := is_any w0 wr g r 4 (by decide) HP.out
    have hi6 := is_any w0 wr g r 6 (by decide) HP.out
    obtain ⟨Ap, cp, hgp, _, _, _⟩ := HP.out
    have z0 : wr.cell? ⟨g, 0, none⟩ = some (.slice Ap r.length cp) := (blk_cell hgp 0).trans rfl
    have f0 := blk_frozen hgp 0
    clear hgp
    cases hr : r with
    | nil =>
      have ho : o = some (acc, []) := by rw [HO.out, hr, parse_nil]; simp [app_nil]
      subst ho
      subst hr
      clear hi4 hi6
      simp only [List.length_nil] at z0 
      go_wp2
      go_ret2
      exact ⟨HK.out, _, _, rfl, HR.out, HP.out⟩
    | cons t q =>
      subst hr
      have hd : headK (t :: q) = t.k := rfl
      rw [hd] at hi4 hi6
      have hln : 0 < (t :: q).length := by simp
      have hli : (0 : Int) < (((t :: q).length : Nat) : Int) := by simp
      have hO := HO.out
      rw [parse_cons] at hO
      by_cases hst : stops t.k = true
      · rw [if_pos hst] at hO
        have ho : o = some (acc, t :: q) := by rw [hO]; simp [app_nil]
        subst ho
        have hkk : (t.k == 4) = true ∨ ((t.k == 4) = false ∧ (t.k == 6) = true) := by
          unfold stops at hst
          cases h4 : (t.k == 4)
          · rw [h4] at hst; right; exact ⟨rfl, by simpa using hst⟩
          · left; rfl
        clear hO hst
        obtain ⟨n, hn⟩ : ∃ n, (t :: q).length = n := ⟨_, rfl⟩
        rw [hn] at z0 hln hli
        clear hn
        rcases hkk with h4 | ⟨h4, h6⟩
        · rw [h4] at hi4
          clear h4 hi6
          go_wp2_with fail
          refine hi4.mono ?_
          rintro e w' ⟨rfl, rfl⟩
          go_wp2
          go_ret2
          exact ⟨HK.out, _, _, rfl, HR.out, HP.out⟩
        · rw [h4] at hi4
          rw [h6] at hi6
          clear h4 h6
          go_wp2_with fail
          refine hi4.mono ?_
          rintro e w' ⟨rfl, rfl⟩
          go_wp2_with fail
          refine hi6.mono ?_
          rintro e w' ⟨rfl, rfl⟩
          go_wp2
          go_ret2
          exact ⟨HK.out, _, _, rfl, HR.out, HP.out⟩
      · rw [if_neg hst] at hO
        have h46 : (t.k == 4) = false ∧ (t.k == 6) = false := by
          unfold stops at hst
          cases h4 : (t.k == 4) <;> cases h6 : (t.k == 6) <;> simp [h4, h6] at hst ⊢
        rw [h46.1] at hi4
        rw [h46.2] at hi6
        have htk := take_any w0 wr g t q HP.out
        obtain ⟨s1, s2, s3, s4⟩ := HS.out t (by simp)
        have hsq : ∀ x, x ∈ q → x.sm := fun x hx => HS.out x (by simp [hx])
        have hcq := HC.out
        simp only [List.length_cons] at hcq
        obtain ⟨n, hn⟩ : ∃ n, (t :: q).length = n := ⟨_, rfl⟩
        rw [hn] at z0 hln hli
        obtain ⟨k, s, p⟩ := t
        simp only at *
        have HO2 := Aside0.mk hO
        clear hO HO hst h46 HS HC HP hd
        have hqn : n = q.length + 1 := by rw [← hn]; simp
        have HQN := Aside0.mk hqn
        have HSQ := Aside0.mk hsq
        have HS4 := Aside0.mk s4
        clear hn hqn hsq s4
        go_wp2_with fail
        refine hi4.mono ?_
        rintro e w' ⟨rfl, rfl⟩
        go_wp2_with fail
        refine hi6.mono ?_
        rintro e w' ⟨rfl, rfl⟩
        go_wp2_with fail
        refine htk.mono ?_
        rintro e W3 ⟨A2, c2, rfl, i2, l2, hP3, hK3⟩
        have HI2 := Aside0.mk i2
        have HP4 : Aside0 (PS w0 (W3.alloc (.cells #[.int .u8 k, .string (bs s), .slice A2 p.length c2] 101)) g q) := ⟨hP3.keep (KeepP.of_below (ok := fun _ => False) (below_alloc (Below.refl _ _) _)) (fun h => h) (fun _ h => h.elim)⟩
        have HR4 := Aside0.mk (Kd.R_alloc (RN.keep HR.out hK3 (fun k hk e => by omega)) (.cells #[.int .u8 k, .string (bs s), .slice A2 p.length c2] 101))
        have HK4 := Aside0.mk ((HK.out.trans hK3).alloc (.cells #[.int .u8 k, .string (bs s), .slice A2 p.length c2] 101))
        have BK5 := Aside0.mk (blk_new W3 (.cells #[.int .u8 k, .string (bs s), .slice A2 p.length c2] 101))
        clear hi4 hi6 htk z0 f0 i2 hP3 hK3 HR HK
        go_upto_region 4 with (fail)
        obtain ⟨g5, hg5⟩ : ∃ g5, W3.heap.size = g5 := ⟨_, rfl⟩
        rw [hg5] at BK5 ⊢
        clear hg5
        generalize W3.alloc (.cells #[.int .u8 k, .string (bs s), .slice A2 p.length c2] 101) = W4 at *
        obtain ⟨z0, z1, z2, f0, f1, f2⟩ := cells_3 BK5.out
        have HB4 := Aside0.mk HP4.out.below
        have h56 : g5 < W4.heap.size := blk_lt BK5.out
        have h56n : g5 ≠ W4.heap.size := by omega
        have h56m : W4.heap.size ≠ g5 := by omega
        go_region_held3 (fun w' => w'.cell? ⟨g5, 0, none⟩ = some (.int .u8 k) ∧ w'.cell? ⟨g5, 1, none⟩ = some (.string (bs s)) ∧ w'.cell? ⟨g5, 2, none⟩ = some (.slice A2 p.length c2))
          (go_keep)
          (first
            | ((go_at_call 136; with_reducible refine (clone_S A2 c2 p W4.drew (Kd.C_below HI2.out (below_drew1 HB4.out)) s3).mono ?_; rintro e w1 ⟨Av, cv, rfl, hv1, hb1⟩; have h5b := blk_below (w := W4.drew) (blk_drew BK5.out) hb1; have h5w := blk_lt h5b; obtain ⟨q0, q1, q2, q3, q4, q5⟩ := cells_3 h5b; have H5B := Aside0.mk h5b; clear h5b z0 z1 z2 f0 f1 f2))
            | ((go_at_call 136; with_reducible refine (clone_S A2 c2 p ((W4.alloc (.cells #[.int .u8 0, .string ⟨#[]⟩, .slice none 0 0, .slice none 0 0, .slice none 0 0] 37)).drew) (Kd.C_below HI2.out (below_drew1 (below_alloc HB4.out _))) s3).mono ?_; rintro e w1 ⟨Av, cv, rfl, hv1, hb1⟩; have BKz := blk_below (blk_drew (blk_new W4 (.cells #[.int .u8 0, .string ⟨#[]⟩, .slice none 0 0, .slice none 0 0, .slice none 0 0] 37))) hb1; have BKZ := Aside0.mk BKz; obtain ⟨m0, m1, m2, m3, m4, n0, n1, n2, n3, n4⟩ := cells_5 BKz; clear BKz; have h5b := blk_below (blk_drew (blk_alloc BK5.out _)) hb1; have h5w := blk_lt h5b; obtain ⟨q0, q1, q2, q3, q4, q5⟩ := cells_3 h5b; have H5B := Aside0.mk h5b; clear h5b z0 z1 z2 f0 f1 f2)))
        all_goals have hWW : W.heap.size ≤ W4.heap.size := HK4.out.size
        · have HBw := Aside0.mk (below_step (below_drew1 (Below.refl W4.heap.size W4)) hb1)
          have BK6 := Aside0.mk (blk_new w1 (.cells #[.int .u8 k, .string (bs s), .slice Av p.length cv, .slice none 0 0, .slice none 0 0] 37))
          have h46 : W4.heap.size ≤ w1.heap.size := HBw.out.size
          have HBz := Aside0.mk (below_alloc HBw.out (.cells #[.int .u8 k, .string (bs s), .slice Av p.length cv, .slice none 0 0, .slice none 0 0] 37))
          have HPT : Aside0 (Kd.string.R 9 (w1.alloc (.cells #[.int .u8 k, .string (bs s), .slice Av p.length cv, .slice none 0 0, .slice none 0 0] 37)) W.heap.size (fun z => W4.heap.size ≤ z ∧ z ≠ w1.heap.size) (.slice Av p.length cv) (p.map bs)) := ⟨Kd.R_alloc (Kd.R_mono (Kd.R_lower (Kd.R_bound hv1) hWW) (fun z hz => ⟨by have := hz.2.1; simpa using this, by have := hz.2.2.1; omega⟩)) _⟩
          have HR6 : Aside0 (kN.R 37 (w1.alloc (.cells #[.int .u8 k, .string (bs s), .slice Av p.length cv, .slice none 0 0, .slice none 0 0] 37)) W.heap.size (fun z => W.heap.size ≤ z ∧ z ≠ w1.heap.size) (.slice Aa acc.len ca) acc.of) := ⟨Kd.R_below (Kd.R_mono (Kd.R_bound HR4.out) (fun z hz => ⟨hz.1, by have := hz.2.2.1; omega⟩)) HBz.out⟩
          have h6s : w1.heap.size < (w1.alloc (.cells #[.int .u8 k, .string (bs s), .slice Av p.length cv, .slice none 0 0, .slice none 0 0] 37)).heap.size := by simp
          obtain ⟨g6, hg6⟩ : ∃ g6, w1.heap.size = g6 := ⟨_, rfl⟩
          rw [hg6] at BK6 HPT HR6 h6s h46 ⊢
          clear hg6 h5w q0 q1 q2 q3 q4 q5
          have H5C := Aside0.mk (blk_alloc H5B.out (.cells #[.int .u8 k, .string (bs s), .slice Av p.length cv, .slice none 0 0, .slice none 0 0] 37))
          generalize w1.alloc (.cells #[.int .u8 k, .string (bs s), .slice Av p.length cv, .slice none 0 0, .slice none 0 0] 37) = W6 at *
          have hg6g : g ≠ g6 := by omega
          have hw06 : w0.heap.size ≤ g6 := by have := HP4.out.lt; have := HP4.out.ge; omega
          have HP6 : Aside0 (PS w0 W6 g q) := ⟨HP4.out.keep (KeepP.of_below (ok := fun _ => False) HBz.out) (fun h => h) (fun _ h => h.elim)⟩
          have HK6 : Aside0 (KeepP (fun z => z = g) W W6) := ⟨HK4.out.trans (KeepP.of_below HBz.out)⟩
          have HOB : Aside0 (∀ z, (Value.slice Aa acc.len ca).ownBlock = some z → z < W4.heap.size) := ⟨Kd.R_lt HR4.out⟩
          have HOK : Aside0 (∀ z, (W4.heap.size ≤ z ∧ z ≠ g6) → W.heap.size ≤ z ∧ some z ≠ (Value.slice Aa acc.len ca).ownBlock) := ⟨fun z hz => ⟨Nat.le_trans hWW hz.1, fun e => by have := HOB.out z e.symm; omega⟩⟩
          have h66 : W4.heap.size ≤ W6.heap.size := by omega
          obtain ⟨x0, x1, x2, y0, y1, y2⟩ := cells_3 H5C.out
          clear H5B H5C BK5 HP4 HR4 HK4 HB4 hb1 hv1 HBz HBw HI2
          by_cases hk35 : k = 3 ∨ k = 5
          · have hO := HO2.out
            rw [if_pos hk35] at hO
            have hw := within_any a w0 HE.out m HN.out q W6 g g6 k s (.slice Av p.length cv) (by have := HQN.out; omega) hmx HSQ.out HP6.out hg6g hw06 BK6.out
            cases hwi : within k q with
            | none =>
              rw [hwi] at hO hw
              obtain rfl : o = none := hO
              clear hwi
              rcases hk35 with rfl | rfl
              all_goals
                go_wp2_with fail
                refine hw.mono ?_
                rintro e W7 ⟨hk7, rfl⟩
                have HK7 : Aside0 (KeepP (fun z => z = g) W W7) := ⟨HK6.out.trans2 hk7 (fun z hz => hz.elim (fun h => .inl h) (fun h => .inr (by omega)))⟩
                clear hw hk7
                go_wp2
                go_ret2
                exact ⟨HK7.out, rfl⟩
            | some z =>
              obtain ⟨x, y, r1⟩ := z
              rw [hwi] at hO hw
              have hcw := within_cnt hwi
              have HSR : Aside0 (∀ z, z ∈ r1 → z.sm) := ⟨fun z hz => HSQ.out z (within_sub hwi z hz)⟩
              simp only at hO
              have HO3 : Aside0 (o = (parse r1).map (fun z => ((acc.app (.cons k s p x y .nil)).app z.1, z.2))) := ⟨by rw [hO]; cases parse r1 with | none => rfl | some z => simp [app_app, app]⟩
              clear hwi hO HO2
              rcases hk35 with rfl | rfl
              · go_wp2_with fail
                refine hw.mono ?_
                rintro e W7 ⟨hk7, rfl, A3, c3, A4, c4, BK7, hX, hY, hP7⟩
                have HK7 : Aside0 (KeepP (fun z => z = g) W W7) := ⟨HK6.out.trans2 hk7 (fun z hz => hz.elim (fun h => .inl h) (fun h => .inr (by omega)))⟩
                have HR7 : Aside0 (kN.R 37 W7 W.heap.size (fun z => W.heap.size ≤ z) (.slice Aa acc.len ca) acc.of) := ⟨Kd.R_mono (RN.keep HR6.out hk7 (fun z hz e => e.elim (fun h => by omega) hz.2)) (fun z hz => hz.1)⟩
                have HPT7 : Aside0 (Kd.string.R 9 W7 W.heap.size (fun z => W4.heap.size ≤ z ∧ z ≠ g6) (.slice Av p.length cv) (p.map bs)) := ⟨Kd.R_step HPT.out (fun z hz hlt => hk7.blk z hlt (fun e => e.elim (fun h => by omega) hz.2))⟩
                have HX7 : Aside0 (kN.R 37 W7 W.heap.size (fun z => W4.heap.size ≤ z ∧ z ≠ g6) (.slice A3 x.len c3) x.of) := ⟨Kd.R_mono (Kd.R_lower hX (by omega)) (fun z hz => ⟨by omega, by omega⟩)⟩
                have HY7 : Aside0 (kN.R 37 W7 W.heap.size (fun z => W4.heap.size ≤ z ∧ z ≠ g6) (.slice A4 y.len c4) y.of) := ⟨Kd.R_mono (Kd.R_lower hY (by omega)) (fun z hz => ⟨by omega, by omega⟩)⟩
                have HP7 := Aside0.mk hP7
                have BK7' := Aside0.mk BK7
                clear hw hk7 hX hY hP7 BK7
                have hal : (acc.of.length + 1) * 96 ≤ 140737488355328 := by rw [of_len]; have := len_cnt acc; omega
                have hsm : acc.cnt + (1 + x.cnt + y.cnt) + r1.length ≤ l.length := by omega
                have hrq : r1.length < q.length + 1 := by omega
                have HS7 : W.heap.size ≤ W7.heap.size := HK7.out.size
                have HB7 := Aside0.mk (KeepP.below (B := g) HK7.out (fun z h => Nat.le_of_eq h.symm) (Nat.le_of_lt hgW))
                have HG7 : Aside0 (∀ z, some z = (Value.slice Aa acc.len ca).ownBlock → z ≠ g) := ⟨fun z e h => by have := Kd.R_base HR7.out z e.symm; omega⟩
                obtain ⟨z0, z1, z2, z3, z4, f0, f1, f2, f3, f4⟩ := cells_5 BK7'.out
                clear x0 x1 x2 y0 y1 y2
                go_wp2_with (at_builtin; refine Kd.R_append kN (w0 := W7) W.heap.size rfl _ _ 22 37 _ 96 rfl Tryz.underlying22 info_node rfl (by decide) (by decide) (.slice Aa acc.len ca) acc.of ⟨3, bs s, p.map bs, x.of, y.of⟩ [.int .u8 3, .string (bs s), .slice Av p.length cv, .slice A3 x.len c3, .slice A4 y.len c4] (fun z => W.heap.size ≤ z) (fun z => W4.heap.size ≤ z ∧ z ≠ g6) (by rfl) (by rfl) (k37_mkM _ _ _ ⟨3, bs s, p.map bs, x.of, y.of⟩ HPT7.out HX7.out HY7.out) HOK.out (fun z hz => Nat.le_trans HS7 hz) HR7.out (Below.refl _ _) HS7 hal ?_; intro v9 W9 hR9 hB9 hg9 hat9)
                have HB9 := Aside0.mk hB9
                have HR9 := Aside0.mk hR9
                obtain ⟨A9, c9, e9⟩ := Kd.R_slice hR9
                have hlen9 : (acc.of ++ [(⟨3, bs s, p.map bs, x.of, y.of⟩ : SN)]).length = (acc.app (.cons 3 s p x y .nil)).len := by rw [app_len, List.length_append, of_len]; rfl
                rw [hlen9] at e9
                subst e9
                have HP9 : Aside0 (PS w0 W9 g r1) := ⟨HP7.out.keep (KeepP.grown (ok := fun z => some z = (Value.slice Aa acc.len ca).ownBlock) hg9 (fun z hz => hz.symm)) (fun e => HG7.out g e rfl) (fun z e => by have h1 := Kd.R_base HR7.out z e.symm; have h2 := HP7.out.ge; omega)⟩
                have HK9 : Aside0 (KeepP (fun z => z = g) W W9) := ⟨HK7.out.trans2 (KeepP.grown (ok := fun z => some z = (Value.slice Aa acc.len ca).ownBlock) hg9 (fun z hz => hz.symm)) (fun z e => .inr (Kd.R_base HR7.out z e.symm))⟩
                clear hg9 hat9 hB9 hR9
                go_roundg r1.length
                case measure => simp only [List.length_cons]; exact hrq
                case rel => exact ⟨r1, acc.app (.cons 3 s p x y .nil), A9, c9, rfl, rfl, HO3, ⟨by rw [app_cnt]; exact hsm⟩, ⟨HSR.out⟩, ⟨by rw [app_of]; exact HR9.out⟩, HP9, HK9⟩
              · go_wp2_with fail
                refine hw.mono ?_
                rintro e W7 ⟨hk7, rfl, A3, c3, A4, c4, BK7, hX, hY, hP7⟩
                have HK7 : Aside0 (KeepP (fun z => z = g) W W7) := ⟨HK6.out.trans2 hk7 (fun z hz => hz.elim (fun h => .inl h) (fun h => .inr (by omega)))⟩
                have HR7 : Aside0 (kN.R 37 W7 W.heap.size (fun z => W.heap.size ≤ z) (.slice Aa acc.len ca) acc.of) := ⟨Kd.R_mono (RN.keep HR6.out hk7 (fun z hz e => e.elim (fun h => by omega) hz.2)) (fun z hz => hz.1)⟩
                have HPT7 : Aside0 (Kd.string.R 9 W7 W.heap.size (fun z => W4.heap.size ≤ z ∧ z ≠ g6) (.slice Av p.length cv) (p.map bs)) := ⟨Kd.R_step HPT.out (fun z hz hlt => hk7.blk z hlt (fun e => e.elim (fun h => by omega) hz.2))⟩
                have HX7 : Aside0 (kN.R 37 W7 W.heap.size (fun z => W4.heap.size ≤ z ∧ z ≠ g6) (.slice A3 x.len c3) x.of) := ⟨Kd.R_mono (Kd.R_lower hX (by omega)) (fun z hz => ⟨by omega, by omega⟩)⟩
                have HY7 : Aside0 (kN.R 37 W7 W.heap.size (fun z => W4.heap.size ≤ z ∧ z ≠ g6) (.slice A4 y.len c4) y.of) := ⟨Kd.R_mono (Kd.R_lower hY (by omega)) (fun z hz => ⟨by omega, by omega⟩)⟩
                have HP7 := Aside0.mk hP7
                have BK7' := Aside0.mk BK7
                clear hw hk7 hX hY hP7 BK7
                have hal : (acc.of.length + 1) * 96 ≤ 140737488355328 := by rw [of_len]; have := len_cnt acc; omega
                have hsm : acc.cnt + (1 + x.cnt + y.cnt) + r1.length ≤ l.length := by omega
                have hrq : r1.length < q.length + 1 := by omega
                have HS7 : W.heap.size ≤ W7.heap.size := HK7.out.size
                have HB7 := Aside0.mk (KeepP.below (B := g) HK7.out (fun z h => Nat.le_of_eq h.symm) (Nat.le_of_lt hgW))
                have HG7 : Aside0 (∀ z, some z = (Value.slice Aa acc.len ca).ownBlock → z ≠ g) := ⟨fun z e h => by have := Kd.R_base HR7.out z e.symm; omega⟩
                obtain ⟨z0, z1, z2, z3, z4, f0, f1, f2, f3, f4⟩ := cells_5 BK7'.out
                clear x0 x1 x2 y0 y1 y2
                go_wp2_with (at_builtin; refine Kd.R_append kN (w0 := W7) W.heap.size rfl _ _ 22 37 _ 96 rfl Tryz.underlying22 info_node rfl (by decide) (by decide) (.slice Aa acc.len ca) acc.of ⟨5, bs s, p.map bs, x.of, y.of⟩ [.int .u8 5, .string (bs s), .slice Av p.length cv, .slice A3 x.len c3, .slice A4 y.len c4] (fun z => W.heap.size ≤ z) (fun z => W4.heap.size ≤ z ∧ z ≠ g6) (by rfl) (by rfl) (k37_mkM _ _ _ ⟨5, bs s, p.map bs, x.of, y.of⟩ HPT7.out HX7.out HY7.out) HOK.out (fun z hz => Nat.le_trans HS7 hz) HR7.out (Below.refl _ _) HS7 hal ?_; intro v9 W9 hR9 hB9 hg9 hat9)
                have HB9 := Aside0.mk hB9
                have HR9 := Aside0.mk hR9
                obtain ⟨A9, c9, e9⟩ := Kd.R_slice hR9
                have hlen9 : (acc.of ++ [(⟨5, bs s, p.map bs, x.of, y.of⟩ : SN)]).length = (acc.app (.cons 5 s p x y .nil)).len := by rw [app_len, List.length_append, of_len]; rfl
                rw [hlen9] at e9
                subst e9
                have HP9 : Aside0 (PS w0 W9 g r1) := ⟨HP7.out.keep (KeepP.grown (ok := fun z => some z = (Value.slice Aa acc.len ca).ownBlock) hg9 (fun z hz => hz.symm)) (fun e => HG7.out g e rfl) (fun z e => by have h1 := Kd.R_base HR7.out z e.symm; have h2 := HP7.out.ge; omega)⟩
                have HK9 : Aside0 (KeepP (fun z => z = g) W W9) := ⟨HK7.out.trans2 (KeepP.grown (ok := fun z => some z = (Value.slice Aa acc.len ca).ownBlock) hg9 (fun z hz => hz.symm)) (fun z e => .inr (Kd.R_base HR7.out z e.symm))⟩
                clear hg9 hat9 hB9 hR9
                go_roundg r1.length
                case measure => simp only [List.length_cons]; exact hrq
                case rel => exact ⟨r1, acc.app (.cons 5 s p x y .nil), A9, c9, rfl, rfl, HO3, ⟨by rw [app_cnt]; exact hsm⟩, ⟨HSR.out⟩, ⟨by rw [app_of]; exact HR9.out⟩, HP9, HK9⟩
          · have hO := HO2.out
            rw [if_neg hk35] at hO
            have n3 : ((k : Int) == 3) = false := by rw [beq_eq_false_iff_ne]; omega
            have n5 : ((k : Int) == 5) = false := by rw [beq_eq_false_iff_ne]; omega
            have HO3 : Aside0 (o = (parse q).map (fun z => ((acc.app (.cons k s p .nil .nil .nil)).app z.1, z.2))) := ⟨by rw [hO]; cases parse q with | none => rfl | some z => simp [app_app, app]⟩
            obtain ⟨x, hx⟩ : ∃ x : Nodes, x = .nil := ⟨_, rfl⟩
            obtain ⟨y, hy⟩ : ∃ y : Nodes, y = .nil := ⟨_, rfl⟩
            obtain ⟨r1, hr1⟩ : ∃ r1, q = r1 := ⟨_, rfl⟩
            have HO4 : Aside0 (o = (parse r1).map (fun z => ((acc.app (.cons k s p x y .nil)).app z.1, z.2))) := ⟨by rw [hx, hy, ← hr1]; exact HO3.out⟩
            have HSR : Aside0 (∀ z, z ∈ r1 → z.sm) := ⟨hr1 ▸ HSQ.out⟩
            have hcw : x.cnt + y.cnt + r1.length ≤ q.length := by rw [hx, hy, ← hr1]; simp [cnt]
            have HX7 : Aside0 (kN.R 37 W6 W.heap.size (fun z => W4.heap.size ≤ z ∧ z ≠ g6) (.slice none 0 0) x.of) := ⟨hx ▸ Kd.R_nil _ _ _ _ _⟩
            have HY7 : Aside0 (kN.R 37 W6 W.heap.size (fun z => W4.heap.size ≤ z ∧ z ≠ g6) (.slice none 0 0) y.of) := ⟨hy ▸ Kd.R_nil _ _ _ _ _⟩
            have HP7 : Aside0 (PS w0 W6 g r1) := ⟨hr1 ▸ HP6.out⟩
            have HR7 : Aside0 (kN.R 37 W6 W.heap.size (fun z => W.heap.size ≤ z) (.slice Aa acc.len ca) acc.of) := ⟨Kd.R_mono HR6.out (fun z hz => hz.1)⟩
            have HPT7 := HPT
            have BK7' := BK6
            have HK7 := HK6
            clear hO HO2 HO3 hk35 hx hy hr1
            have hal : (acc.of.length + 1) * 96 ≤ 140737488355328 := by rw [of_len]; have := len_cnt acc; omega
            have hsm : acc.cnt + (1 + x.cnt + y.cnt) + r1.length ≤ l.length := by omega
            have hrq : r1.length < q.length + 1 := by omega
            have HS7 : W.heap.size ≤ W6.heap.size := HK7.out.size
            have HB7 := Aside0.mk (KeepP.below (B := g) HK7.out (fun z h => Nat.le_of_eq h.symm) (Nat.le_of_lt hgW))
            have HG7 : Aside0 (∀ z, some z = (Value.slice Aa acc.len ca).ownBlock → z ≠ g) := ⟨fun z e h => by have := Kd.R_base HR7.out z e.symm; omega⟩
            obtain ⟨z0, z1, z2, z3, z4, f0, f1, f2, f3, f4⟩ := cells_5 BK7'.out
            go_wp2_with (at_builtin; refine Kd.R_append kN (w0 := W6) W.heap.size rfl _ _ 22 37 _ 96 rfl Tryz.underlying22 info_node rfl (by decide) (by decide) (.slice Aa acc.len ca) acc.of ⟨k, bs s, p.map bs, x.of, y.of⟩ [.int .u8 k, .string (bs s), .slice Av p.length cv, .slice none 0 0, .slice none 0 0] (fun z => W.heap.size ≤ z) (fun z => W4.heap.size ≤ z ∧ z ≠ g6) (by rfl) (by rfl) (k37_mkM _ _ _ ⟨k, bs s, p.map bs, x.of, y.of⟩ HPT7.out HX7.out HY7.out) HOK.out (fun z hz => Nat.le_trans HS7 hz) HR7.out (Below.refl _ _) HS7 hal ?_; intro v9 W9 hR9 hB9 hg9 hat9)
            have HB9 := Aside0.mk hB9
            have HR9 := Aside0.mk hR9
            obtain ⟨A9, c9, e9⟩ := Kd.R_slice hR9
            have hlen9 : (acc.of ++ [(⟨k, bs s, p.map bs, x.of, y.of⟩ : SN)]).length = (acc.app (.cons k s p x y .nil)).len := by rw [app_len, List.length_append, of_len]; rfl
            rw [hlen9] at e9
            subst e9
            have HP9 : Aside0 (PS w0 W9 g r1) := ⟨HP7.out.keep (KeepP.grown (ok := fun z => some z = (Value.slice Aa acc.len ca).ownBlock) hg9 (fun z hz => hz.symm)) (fun e => HG7.out g e rfl) (fun z e => by have h1 := Kd.R_base HR7.out z e.symm; have h2 := HP7.out.ge; omega)⟩
            have HK9 : Aside0 (KeepP (fun z => z = g) W W9) := ⟨HK7.out.trans2 (KeepP.grown (ok := fun z => some z = (Value.slice Aa acc.len ca).ownBlock) hg9 (fun z hz => hz.symm)) (fun z e => .inr (Kd.R_base HR7.out z e.symm))⟩
            clear hg9 hat9 hB9 hR9
            go_roundg r1.length
            case measure => simp only [List.length_cons]; exact hrq
            case rel => exact ⟨r1, acc.app (.cons k s p x y .nil), A9, c9, rfl, rfl, HO4, ⟨by rw [app_cnt]; exact hsm⟩, ⟨HSR.out⟩, ⟨by rw [app_of]; exact HR9.out⟩, HP9, HK9⟩
        · obtain ⟨g6, hg6⟩ : ∃ g6, g6 = W4.heap.size := ⟨_, rfl⟩
          rw [← hg6] at BKZ ⊢
          have h46 : W4.heap.size ≤ g6 := Nat.le_of_eq hg6.symm
          have h56g : g5 ≠ g6 := by omega
          have HBw := Aside0.mk (below_step (below_drew1 (below_alloc (Below.refl W4.heap.size W4) (.cells #[.int .u8 0, .string ⟨#[]⟩, .slice none 0 0, .slice none 0 0, .slice none 0 0] 37))) hb1)
          have BK6 := Aside0.mk (blk_put (blk_put (blk_put (blk_put (blk_put BKZ.out 0 (.int .u8 k) rfl) 1 (.string (bs s)) rfl) 2 (.slice Av p.length cv) rfl) 3 (.slice none 0 0) rfl) 4 (.slice none 0 0) rfl)
          have HBz := Aside0.mk (below_set (below_set (below_set (below_set (below_set HBw.out (g := g6) (j := 0) (v := .int .u8 k) h46) (j := 1) (v := .string (bs s)) h46) (j := 2) (v := .slice Av p.length cv) h46) (j := 3) (v := .slice none 0 0) h46) (j := 4) (v := .slice none 0 0) h46)
          have hfar : ∀ z, (W4.heap.size ≤ z ∧ z ≠ g6) → z ≠ g6 := fun _ h => h.2
          have hpt : Kd.string.R 9 w1 W.heap.size (fun z => W4.heap.size ≤ z ∧ z ≠ g6) (.slice Av p.length cv) (p.map bs) := Kd.R_mono (Kd.R_lower hv1 (Nat.le_trans hWW (by simp))) (fun z hz => by simp only [World.size_drew, World.size_alloc] at hz; omega)
          have HPT := Aside0.mk (Kd.R_far (Kd.R_far (Kd.R_far (Kd.R_far (Kd.R_far hpt (p := ⟨g6, 0, none⟩) hfar (.int .u8 k)) (p := ⟨g6, 1, none⟩) hfar (.string (bs s))) (p := ⟨g6, 2, none⟩) hfar (.slice Av p.length cv)) (p := ⟨g6, 3, none⟩) hfar (.slice none 0 0)) (p := ⟨g6, 4, none⟩) hfar (.slice none 0 0))
          have HR6 : Aside0 (kN.R 37 (((((w1.setCell ⟨g6, 0, none⟩ (.int .u8 k)).setCell ⟨g6, 1, none⟩ (.string (bs s))).setCell ⟨g6, 2, none⟩ (.slice Av p.length cv)).setCell ⟨g6, 3, none⟩ (.slice none 0 0)).setCell ⟨g6, 4, none⟩ (.slice none 0 0)) W.heap.size (fun z => W.heap.size ≤ z ∧ z ≠ g6) (.slice Aa acc.len ca) acc.of) := ⟨Kd.R_below (Kd.R_mono (Kd.R_bound HR4.out) (fun z hz => ⟨hz.1, by have := hz.2.2.1; omega⟩)) HBz.out⟩
          have h6s : g6 < (((((w1.setCell ⟨g6, 0, none⟩ (.int .u8 k)).setCell ⟨g6, 1, none⟩ (.string (bs s))).setCell ⟨g6, 2, none⟩ (.slice Av p.length cv)).setCell ⟨g6, 3, none⟩ (.slice none 0 0)).setCell ⟨g6, 4, none⟩ (.slice none 0 0)).heap.size := blk_lt BK6.out
          have H5C := Aside0.mk (blk_far (p := ⟨g6, 4, none⟩) (blk_far (p := ⟨g6, 3, none⟩) (blk_far (p := ⟨g6, 2, none⟩) (blk_far (p := ⟨g6, 1, none⟩) (blk_far (p := ⟨g6, 0, none⟩) H5B.out h56g (.int .u8 k)) h56g (.string (bs s))) h56g (.slice Av p.length cv)) h56g (.slice none 0 0)) h56g (.slice none 0 0))
          clear h5w q0 q1 q2 q3 q4 q5 m0 m1 m2 m3 m4 n0 n1 n2 n3 n4 hpt hfar BKZ hg6
          generalize ((((w1.setCell ⟨g6, 0, none⟩ (.int .u8 k)).setCell ⟨g6, 1, none⟩ (.string (bs s))).setCell ⟨g6, 2, none⟩ (.slice Av p.length cv)).setCell ⟨g6, 3, none⟩ (.slice none 0 0)).setCell ⟨g6, 4, none⟩ (.slice none 0 0) = W6 at *
          have hg6g : g ≠ g6 := by omega
          have hw06 : w0.heap.size ≤ g6 := by have := HP4.out.lt; have := HP4.out.ge; omega
          have HP6 : Aside0 (PS w0 W6 g q) := ⟨HP4.out.keep (KeepP.of_below (ok := fun _ => False) HBz.out) (fun h => h) (fun _ h => h.elim)⟩
          have HK6 : Aside0 (KeepP (fun z => z = g) W W6) := ⟨HK4.out.trans (KeepP.of_below HBz.out)⟩
          have HOB : Aside0 (∀ z, (Value.slice Aa acc.len ca).ownBlock = some z → z < W4.heap.size) := ⟨Kd.R_lt HR4.out⟩
          have HOK : Aside0 (∀ z, (W4.heap.size ≤ z ∧ z ≠ g6) → W.heap.size ≤ z ∧ some z ≠ (Value.slice Aa acc.len ca).ownBlock) := ⟨fun z hz => ⟨Nat.le_trans hWW hz.1, fun e => by have := HOB.out z e.symm; omega⟩⟩
          have h66 : W4.heap.size ≤ W6.heap.size := by omega
          obtain ⟨x0, x1, x2, y0, y1, y2⟩ := cells_3 H5C.out
          clear H5B H5C BK5 HP4 HR4 HK4 HB4 hb1 hv1 HBz HBw HI2
          by_cases hk35 : k = 3 ∨ k = 5
          · have hO := HO2.out
            rw [if_pos hk35] at hO
            have hw := within_any a w0 HE.out m HN.out q W6 g g6 k s (.slice Av p.length cv) (by have := HQN.out; omega) hmx HSQ.out HP6.out hg6g hw06 BK6.out
            cases hwi : within k q with
            | none =>
              rw [hwi] at hO hw
              obtain rfl : o = none := hO
              clear hwi
              rcases hk35 with rfl | rfl
              all_goals
                go_wp2_with fail
                refine hw.mono ?_
                rintro e W7 ⟨hk7, rfl⟩
                have HK7 : Aside0 (KeepP (fun z => z = g) W W7) := ⟨HK6.out.trans2 hk7 (fun z hz => hz.elim (fun h => .inl h) (fun h => .inr (by omega)))⟩
                clear hw hk7
                go_wp2
                go_ret2
                exact ⟨HK7.out, rfl⟩
            | some z =>
              obtain ⟨x, y, r1⟩ := z
              rw [hwi] at hO hw
              have hcw := within_cnt hwi
              have HSR : Aside0 (∀ z, z ∈ r1 → z.sm) := ⟨fun z hz => HSQ.out z (within_sub hwi z hz)⟩
              simp only at hO
              have HO3 : Aside0 (o = (parse r1).map (fun z => ((acc.app (.cons k s p x y .nil)).app z.1, z.2))) := ⟨by rw [hO]; cases parse r1 with | none => rfl | some z => simp [app_app, app]⟩
              clear hwi hO HO2
              rcases hk35 with rfl | rfl
              · go_wp2_with fail
                refine hw.mono ?_
                rintro e W7 ⟨hk7, rfl, A3, c3, A4, c4, BK7, hX, hY, hP7⟩
                have HK7 : Aside0 (KeepP (fun z => z = g) W W7) := ⟨HK6.out.trans2 hk7 (fun z hz => hz.elim (fun h => .inl h) (fun h => .inr (by omega)))⟩
                have HR7 : Aside0 (kN.R 37 W7 W.heap.size (fun z => W.heap.size ≤ z) (.slice Aa acc.len ca) acc.of) := ⟨Kd.R_mono (RN.keep HR6.out hk7 (fun z hz e => e.elim (fun h => by omega) hz.2)) (fun z hz => hz.1)⟩
                have HPT7 : Aside0 (Kd.string.R 9 W7 W.heap.size (fun z => W4.heap.size ≤ z ∧ z ≠ g6) (.slice Av p.length cv) (p.map bs)) := ⟨Kd.R_step HPT.out (fun z hz hlt => hk7.blk z hlt (fun e => e.elim (fun h => by omega) hz.2))⟩
                have HX7 : Aside0 (kN.R 37 W7 W.heap.size (fun z => W4.heap.size ≤ z ∧ z ≠ g6) (.slice A3 x.len c3) x.of) := ⟨Kd.R_mono (Kd.R_lower hX (by omega)) (fun z hz => ⟨by omega, by omega⟩)⟩
                have HY7 : Aside0 (kN.R 37 W7 W.heap.size (fun z => W4.heap.size ≤ z ∧ z ≠ g6) (.slice A4 y.len c4) y.of) := ⟨Kd.R_mono (Kd.R_lower hY (by omega)) (fun z hz => ⟨by omega, by omega⟩)⟩
                have HP7 := Aside0.mk hP7
                have BK7' := Aside0.mk BK7
                clear hw hk7 hX hY hP7 BK7
                have hal : (acc.of.length + 1) * 96 ≤ 140737488355328 := by rw [of_len]; have := len_cnt acc; omega
                have hsm : acc.cnt + (1 + x.cnt + y.cnt) + r1.length ≤ l.length := by omega
                have hrq : r1.length < q.length + 1 := by omega
                have HS7 : W.heap.size ≤ W7.heap.size := HK7.out.size
                have HB7 := Aside0.mk (KeepP.below (B := g) HK7.out (fun z h => Nat.le_of_eq h.symm) (Nat.le_of_lt hgW))
                have HG7 : Aside0 (∀ z, some z = (Value.slice Aa acc.len ca).ownBlock → z ≠ g) := ⟨fun z e h => by have := Kd.R_base HR7.out z e.symm; omega⟩
                obtain ⟨z0, z1, z2, z3, z4, f0, f1, f2, f3, f4⟩ := cells_5 BK7'.out
                clear x0 x1 x2 y0 y1 y2
                go_wp2_with (at_builtin; refine Kd.R_append kN (w0 := W7) W.heap.size rfl _ _ 22 37 _ 96 rfl Tryz.underlying22 info_node rfl (by decide) (by decide) (.slice Aa acc.len ca) acc.of ⟨3, bs s, p.map bs, x.of, y.of⟩ [.int .u8 3, .string (bs s), .slice Av p.length cv, .slice A3 x.len c3, .slice A4 y.len c4] (fun z => W.heap.size ≤ z) (fun z => W4.heap.size ≤ z ∧ z ≠ g6) (by rfl) (by rfl) (k37_mkM _ _ _ ⟨3, bs s, p.map bs, x.of, y.of⟩ HPT7.out HX7.out HY7.out) HOK.out (fun z hz => Nat.le_trans HS7 hz) HR7.out (Below.refl _ _) HS7 hal ?_; intro v9 W9 hR9 hB9 hg9 hat9)
                have HB9 := Aside0.mk hB9
                have HR9 := Aside0.mk hR9
                obtain ⟨A9, c9, e9⟩ := Kd.R_slice hR9
                have hlen9 : (acc.of ++ [(⟨3, bs s, p.map bs, x.of, y.of⟩ : SN)]).length = (acc.app (.cons 3 s p x y .nil)).len := by rw [app_len, List.length_append, of_len]; rfl
                rw [hlen9] at e9
                subst e9
                have HP9 : Aside0 (PS w0 W9 g r1) := ⟨HP7.out.keep (KeepP.grown (ok := fun z => some z = (Value.slice Aa acc.len ca).ownBlock) hg9 (fun z hz => hz.symm)) (fun e => HG7.out g e rfl) (fun z e => by have h1 := Kd.R_base HR7.out z e.symm; have h2 := HP7.out.ge; omega)⟩
                have HK9 : Aside0 (KeepP (fun z => z = g) W W9) := ⟨HK7.out.trans2 (KeepP.grown (ok := fun z => some z = (Value.slice Aa acc.len ca).ownBlock) hg9 (fun z hz => hz.symm)) (fun z e => .inr (Kd.R_base HR7.out z e.symm))⟩
                clear hg9 hat9 hB9 hR9
                go_roundg r1.length
                case measure => simp only [List.length_cons]; exact hrq
                case rel => exact ⟨r1, acc.app (.cons 3 s p x y .nil), A9, c9, rfl, rfl, HO3, ⟨by rw [app_cnt]; exact hsm⟩, ⟨HSR.out⟩, ⟨by rw [app_of]; exact HR9.out⟩, HP9, HK9⟩
              · go_wp2_with fail
                refine hw.mono ?_
                rintro e W7 ⟨hk7, rfl, A3, c3, A4, c4, BK7, hX, hY, hP7⟩
                have HK7 : Aside0 (KeepP (fun z => z = g) W W7) := ⟨HK6.out.trans2 hk7 (fun z hz => hz.elim (fun h => .inl h) (fun h => .inr (by omega)))⟩
                have HR7 : Aside0 (kN.R 37 W7 W.heap.size (fun z => W.heap.size ≤ z) (.slice Aa acc.len ca) acc.of) := ⟨Kd.R_mono (RN.keep HR6.out hk7 (fun z hz e => e.elim (fun h => by omega) hz.2)) (fun z hz => hz.1)⟩
                have HPT7 : Aside0 (Kd.string.R 9 W7 W.heap.size (fun z => W4.heap.size ≤ z ∧ z ≠ g6) (.slice Av p.length cv) (p.map bs)) := ⟨Kd.R_step HPT.out (fun z hz hlt => hk7.blk z hlt (fun e => e.elim (fun h => by omega) hz.2))⟩
                have HX7 : Aside0 (kN.R 37 W7 W.heap.size (fun z => W4.heap.size ≤ z ∧ z ≠ g6) (.slice A3 x.len c3) x.of) := ⟨Kd.R_mono (Kd.R_lower hX (by omega)) (fun z hz => ⟨by omega, by omega⟩)⟩
                have HY7 : Aside0 (kN.R 37 W7 W.heap.size (fun z => W4.heap.size ≤ z ∧ z ≠ g6) (.slice A4 y.len c4) y.of) := ⟨Kd.R_mono (Kd.R_lower hY (by omega)) (fun z hz => ⟨by omega, by omega⟩)⟩
                have HP7 := Aside0.mk hP7
                have BK7' := Aside0.mk BK7
                clear hw hk7 hX hY hP7 BK7
                have hal : (acc.of.length + 1) * 96 ≤ 140737488355328 := by rw [of_len]; have := len_cnt acc; omega
                have hsm : acc.cnt + (1 + x.cnt + y.cnt) + r1.length ≤ l.length := by omega
                have hrq : r1.length < q.length + 1 := by omega
                have HS7 : W.heap.size ≤ W7.heap.size := HK7.out.size
                have HB7 := Aside0.mk (KeepP.below (B := g) HK7.out (fun z h => Nat.le_of_eq h.symm) (Nat.le_of_lt hgW))
                have HG7 : Aside0 (∀ z, some z = (Value.slice Aa acc.len ca).ownBlock → z ≠ g) := ⟨fun z e h => by have := Kd.R_base HR7.out z e.symm; omega⟩
                obtain ⟨z0, z1, z2, z3, z4, f0, f1, f2, f3, f4⟩ := cells_5 BK7'.out
                clear x0 x1 x2 y0 y1 y2
                go_wp2_with (at_builtin; refine Kd.R_append kN (w0 := W7) W.heap.size rfl _ _ 22 37 _ 96 rfl Tryz.underlying22 info_node rfl (by decide) (by decide) (.slice Aa acc.len ca) acc.of ⟨5, bs s, p.map bs, x.of, y.of⟩ [.int .u8 5, .string (bs s), .slice Av p.length cv, .slice A3 x.len c3, .slice A4 y.len c4] (fun z => W.heap.size ≤ z) (fun z => W4.heap.size ≤ z ∧ z ≠ g6) (by rfl) (by rfl) (k37_mkM _ _ _ ⟨5, bs s, p.map bs, x.of, y.of⟩ HPT7.out HX7.out HY7.out) HOK.out (fun z hz => Nat.le_trans HS7 hz) HR7.out (Below.refl _ _) HS7 hal ?_; intro v9 W9 hR9 hB9 hg9 hat9)
                have HB9 := Aside0.mk hB9
                have HR9 := Aside0.mk hR9
                obtain ⟨A9, c9, e9⟩ := Kd.R_slice hR9
                have hlen9 : (acc.of ++ [(⟨5, bs s, p.map bs, x.of, y.of⟩ : SN)]).length = (acc.app (.cons 5 s p x y .nil)).len := by rw [app_len, List.length_append, of_len]; rfl
                rw [hlen9] at e9
                subst e9
                have HP9 : Aside0 (PS w0 W9 g r1) := ⟨HP7.out.keep (KeepP.grown (ok := fun z => some z = (Value.slice Aa acc.len ca).ownBlock) hg9 (fun z hz => hz.symm)) (fun e => HG7.out g e rfl) (fun z e => by have h1 := Kd.R_base HR7.out z e.symm; have h2 := HP7.out.ge; omega)⟩
                have HK9 : Aside0 (KeepP (fun z => z = g) W W9) := ⟨HK7.out.trans2 (KeepP.grown (ok := fun z => some z = (Value.slice Aa acc.len ca).ownBlock) hg9 (fun z hz => hz.symm)) (fun z e => .inr (Kd.R_base HR7.out z e.symm))⟩
                clear hg9 hat9 hB9 hR9
                go_roundg r1.length
                case measure => simp only [List.length_cons]; exact hrq
                case rel => exact ⟨r1, acc.app (.cons 5 s p x y .nil), A9, c9, rfl, rfl, HO3, ⟨by rw [app_cnt]; exact hsm⟩, ⟨HSR.out⟩, ⟨by rw [app_of]; exact HR9.out⟩, HP9, HK9⟩
          · have hO := HO2.out
            rw [if_neg hk35] at hO
            have n3 : ((k : Int) == 3) = false := by rw [beq_eq_false_iff_ne]; omega
            have n5 : ((k : Int) == 5) = false := by rw [beq_eq_false_iff_ne]; omega
            have HO3 : Aside0 (o = (parse q).map (fun z => ((acc.app (.cons k s p .nil .nil .nil)).app z.1, z.2))) := ⟨by rw [hO]; cases parse q with | none => rfl | some z => simp [app_app, app]⟩
            obtain ⟨x, hx⟩ : ∃ x : Nodes, x = .nil := ⟨_, rfl⟩
            obtain ⟨y, hy⟩ : ∃ y : Nodes, y = .nil := ⟨_, rfl⟩
            obtain ⟨r1, hr1⟩ : ∃ r1, q = r1 := ⟨_, rfl⟩
            have HO4 : Aside0 (o = (parse r1).map (fun z => ((acc.app (.cons k s p x y .nil)).app z.1, z.2))) := ⟨by rw [hx, hy, ← hr1]; exact HO3.out⟩
            have HSR : Aside0 (∀ z, z ∈ r1 → z.sm) := ⟨hr1 ▸ HSQ.out⟩
            have hcw : x.cnt + y.cnt + r1.length ≤ q.length := by rw [hx, hy, ← hr1]; simp [cnt]
            have HX7 : Aside0 (kN.R 37 W6 W.heap.size (fun z => W4.heap.size ≤ z ∧ z ≠ g6) (.slice none 0 0) x.of) := ⟨hx ▸ Kd.R_nil _ _ _ _ _⟩
            have HY7 : Aside0 (kN.R 37 W6 W.heap.size (fun z => W4.heap.size ≤ z ∧ z ≠ g6) (.slice none 0 0) y.of) := ⟨hy ▸ Kd.R_nil _ _ _ _ _⟩
            have HP7 : Aside0 (PS w0 W6 g r1) := ⟨hr1 ▸ HP6.out⟩
            have HR7 : Aside0 (kN.R 37 W6 W.heap.size (fun z => W.heap.size ≤ z) (.slice Aa acc.len ca) acc.of) := ⟨Kd.R_mono HR6.out (fun z hz => hz.1)⟩
            have HPT7 := HPT
            have BK7' := BK6
            have HK7 := HK6
            clear hO HO2 HO3 hk35 hx hy hr1
            have hal : (acc.of.length + 1) * 96 ≤ 140737488355328 := by rw [of_len]; have := len_cnt acc; omega
            have hsm : acc.cnt + (1 + x.cnt + y.cnt) + r1.length ≤ l.length := by omega
            have hrq : r1.length < q.length + 1 := by omega
            have HS7 : W.heap.size ≤ W6.heap.size := HK7.out.size
            have HB7 := Aside0.mk (KeepP.below (B := g) HK7.out (fun z h => Nat.le_of_eq h.symm) (Nat.le_of_lt hgW))
            have HG7 : Aside0 (∀ z, some z = (Value.slice Aa acc.len ca).ownBlock → z ≠ g) := ⟨fun z e h => by have := Kd.R_base HR7.out z e.symm; omega⟩
            obtain ⟨z0, z1, z2, z3, z4, f0, f1, f2, f3, f4⟩ := cells_5 BK7'.out
            go_wp2_with (at_builtin; refine Kd.R_append kN (w0 := W6) W.heap.size rfl _ _ 22 37 _ 96 rfl Tryz.underlying22 info_node rfl (by decide) (by decide) (.slice Aa acc.len ca) acc.of ⟨k, bs s, p.map bs, x.of, y.of⟩ [.int .u8 k, .string (bs s), .slice Av p.length cv, .slice none 0 0, .slice none 0 0] (fun z => W.heap.size ≤ z) (fun z => W4.heap.size ≤ z ∧ z ≠ g6) (by rfl) (by rfl) (k37_mkM _ _ _ ⟨k, bs s, p.map bs, x.of, y.of⟩ HPT7.out HX7.out HY7.out) HOK.out (fun z hz => Nat.le_trans HS7 hz) HR7.out (Below.refl _ _) HS7 hal ?_; intro v9 W9 hR9 hB9 hg9 hat9)
            have HB9 := Aside0.mk hB9
            have HR9 := Aside0.mk hR9
            obtain ⟨A9, c9, e9⟩ := Kd.R_slice hR9
            have hlen9 : (acc.of ++ [(⟨k, bs s, p.map bs, x.of, y.of⟩ : SN)]).length = (acc.app (.cons k s p x y .nil)).len := by rw [app_len, List.length_append, of_len]; rfl
            rw [hlen9] at e9
            subst e9
            have HP9 : Aside0 (PS w0 W9 g r1) := ⟨HP7.out.keep (KeepP.grown (ok := fun z => some z = (Value.slice Aa acc.len ca).ownBlock) hg9 (fun z hz => hz.symm)) (fun e => HG7.out g e rfl) (fun z e => by have h1 := Kd.R_base HR7.out z e.symm; have h2 := HP7.out.ge; omega)⟩
            have HK9 : Aside0 (KeepP (fun z => z = g) W W9) := ⟨HK7.out.trans2 (KeepP.grown (ok := fun z => some z = (Value.slice Aa acc.len ca).ownBlock) hg9 (fun z hz => hz.symm)) (fun z e => .inr (Kd.R_base HR7.out z e.symm))⟩
            clear hg9 hat9 hB9 hR9
            go_roundg r1.length
            case measure => simp only [List.length_cons]; exact hrq
            case rel => exact ⟨r1, acc.app (.cons k s p x y .nil), A9, c9, rfl, rfl, HO4, ⟨by rw [app_cnt]; exact hsm⟩, ⟨HSR.out⟩, ⟨by rw [app_of]; exact HR9.out⟩, HP9, HK9⟩
end Go.Proofs.YtniibpndgcndbaaGreatDoor.Tpl
namespace Go.Proofs.YtniibpndgcndbaaGreatDoor.Tpl
open Go.RowKit Go.Proofs Go.Proofs.YtniibpndgcndbaaGreatDoor.PB Go.Proofs.YtniibpndgcndbaaGreatDoor.Short Go.Proofs.YtniibpndgcndbaaGreatDoorW.PrintWords Go.Proofs.YtniibpndgcndbaaGreatDoorW.PrintLast Go.Proofs.YtniibpndgcndbaaGreatDoorW.PrintMore Nodes
set_option maxRecDepth 100000 in
theorem nodes_zero (a : Addr) (w0 : World) : NAll a w0 0 := by
  intro l W g hm hs hP
  have : l = [] := List.length_eq_zero_iff.1 (by omega)
  subst this
  have HP := Aside0.mk hP
  obtain ⟨Ap, cp, hgp, _, _, _⟩ := hP
  have z0 : W.cell? ⟨g, 0, none⟩ = some (.slice Ap 0 cp) := (blk_cell hgp 0).trans rfl
  have f0 := blk_frozen hgp 0
  clear hgp
  rw [parse_nil]
  go_enter Tryz.func144, Tryz.ntmps144
  go_wp2
  refine wp_loop_rounds 1 ?_
  rw [rounds_succ]
  go_wp2
  go_ret2
  exact ⟨KeepP.refl _, _, _, rfl, Kd.R_nil _ _ _ _ _, HP.out⟩
theorem nodes_all (a : Addr) (w0 : World) (hE : GE w0 a) : ∀ m, m ≤ 1048576 → NAll a w0 m := by
  intro m
  induction m with
  | zero => intro _; exact nodes_zero a w0
  | succ m ih => intro hm l W g hl hs hP; exact nodes_step a w0 hE m (by omega) (ih (by omega)) l W g hl hs hP
def ARet (o : Option Nodes) (a : Addr) (w0 W : World) (g : Nat) (e : Ending) (w' : World) : Prop :=
  KeepP (fun k => k = g) W w' ∧
  match o with
  | none => ∃ v, e = .returned (.tuple #[v, errv a])
  | some nd => ∃ A c, e = .returned (.tuple #[.slice A nd.len c, .nilIface]) ∧ kN.R 37 w' W.heap.size (fun k => W.heap.size ≤ k) (.slice A nd.len c) nd.of
def allP (l : List Tok) : Option Nodes := match parse l with | none => none | some (nd, r) => if r = [] then some nd else none
set_option maxRecDepth 100000 in
theorem all_any (a : Addr) (w0 : World) (hE : GE w0 a) (l : List Tok) (W : World) (g : Nat) (hm : l.length ≤ 1048576) (hs : ∀ x, x ∈ l → x.sm) (hP : PS w0 W g l) :
    Calls Tryz.prog 96 #[.pointer (some ⟨g, 0, none⟩)] W (ARet (allP l) a w0 W g) := by
  have h := nodes_all a w0 hE _ hm l W g (Nat.le_refl _) hs hP
  have HE := Aside0.mk hE
  clear hP hE hs
  unfold allP
  cases hp : parse l with
  | none =>
    rw [hp] at h
    clear hp
    go_enter Tryz.func96, Tryz.ntmps96
    go_wp2_with fail
    refine h.mono ?_
    rintro e W1 ⟨hk, rfl⟩
    have HK := Aside0.mk hk
    clear hk h
    go_wp2
    go_ret2
    exact ⟨HK.out, _, rfl⟩
  | some z =>
    obtain ⟨nd, r⟩ := z
    rw [hp] at h
    clear hp
    simp only
    cases r with
    | nil =>
      rw [if_pos rfl]
      go_enter Tryz.func96, Tryz.ntmps96
      go_wp2_with fail
      refine h.mono ?_
      rintro e W1 ⟨hk, A, c, rfl, hR, Ap, cp, hgp, _, _, _⟩
      have z0 : W1.cell? ⟨g, 0, none⟩ = some (.slice Ap 0 cp) := (blk_cell hgp 0).trans rfl
      have f0 := blk_frozen hgp 0
      have HK := Aside0.mk hk
      have HR := Aside0.mk hR
      clear hk h hR hgp
      go_wp2
      go_ret2
      exact ⟨HK.out, _, _, rfl, HR.out⟩
    | cons t r =>
      rw [if_neg (by simp)]
      go_enter Tryz.func96, Tryz.ntmps96
      go_wp2_with fail
      refine h.mono ?_
      rintro e W1 ⟨hk, A, c, rfl, hR, hP⟩
      have hge := HE.out.below hP.below
      unfold GE at hge
      obtain ⟨Ap, cp, hgp, _, _, _⟩ := hP
      have hln : (0 : Int) < (((t :: r).length : Nat) : Int) := by simp
      have hli : 0 < (t :: r).length := by simp
      generalize (t :: r).length = n at *
      have z0 : W1.cell? ⟨g, 0, none⟩ = some (.slice Ap n cp) := (blk_cell hgp 0).trans rfl
      have f0 := blk_frozen hgp 0
      have HK := Aside0.mk hk
      clear hk h hR hgp
      go_wp2
      go_ret2
      exact ⟨HK.out, _, rfl⟩
theorem nodesP_eq (l : List Tok) : nodesP l = if toksP l = false then .error 2 else match allP l with | none => .error 7 | some nd => if nd.fitsP = true then .ok nd else .error 11 := by
  unfold nodesP allP
  split
  · rfl
  · cases parse l with
    | none => rfl
    | some z => obtain ⟨nd, r⟩ := z; cases r <;> simp
def PRet (o : Except Int Nodes) (w : World) (e : Ending) (w' : World) : Prop :=
  Below w.heap.size w w' ∧
  match o with
  | .error k => e = .returned (.tuple #[.slice none 0 0, .int .i64 k])
  | .ok nd => ∃ A c, e = .returned (.tuple #[.slice A nd.len c, .int .i64 0]) ∧ kN.R 37 w' w.heap.size (fun k => w.heap.size ≤ k) (.slice A nd.len c) nd.of ∧ Rd w' A c nd
theorem Rd_of_R {w : World} {base : Nat} {ok : Nat → Prop} {A : Option Addr} {c : Nat} {nd : Nodes} (h : kN.R 37 w base ok (.slice A nd.len c) nd.of) : Rd w A c nd := by
  obtain ⟨h1, h2, h3⟩ := Kd.R_reads' h
  rw [of_len] at h3
  exact ⟨h3, h2⟩
set_option maxHeartbeats 1000000 in
set_option maxRecDepth 100000 in
theorem nodesW_any (l : List Tok) (A : Option Addr) (c : Nat) (w : World) (hG : Glob w) (hR : RdT w A c l) (hm : l.length ≤ 1048576) (hs : ∀ x, x ∈ l → x.sm) :
    Calls Tryz.prog 66 #[.slice A l.length c] w (PRet (nodesP l) w) := by
  obtain ⟨o, ho⟩ : ∃ o, nodesP l = o := ⟨_, rfl⟩
  rw [ho]
  rw [nodesP_eq] at ho
  have h1 := check_any A c l w hG hR hm hs
  obtain ⟨a, ha⟩ := hG.2
  have hE : GE w a := ha
  have HE := Aside0.mk hE
  have HR := Aside0.mk hR
  have HS := Aside0.mk hs
  have HG := Aside0.mk hG
  clear ha hE hR hs hG
  cases ht : toksP l with
  | false =>
    rw [ht, if_pos rfl] at ho
    subst ho
    rw [ht] at h1
    clear ht
    go_enter Tryz.func66, Tryz.ntmps66
    go_wp2_with fail
    refine h1.mono ?_
    rintro e W1 ⟨rfl, hb⟩
    have HB := Aside0.mk hb
    clear hb h1
    go_wp2
    go_ret2
    exact ⟨HB.out, rfl⟩
  | true =>
    rw [ht, if_neg (by simp)] at ho
    rw [ht] at h1
    clear ht
    have HO := Aside0.mk ho
    clear ho
    go_enter Tryz.func66, Tryz.ntmps66
    go_wp2_with fail
    refine h1.mono ?_
    rintro e W1 ⟨rfl, hb⟩
    have HB := Aside0.mk hb
    clear hb h1
    have HP : Aside0 (PS w (W1.alloc (.cells #[.slice A l.length c] 141)) W1.heap.size l) := ⟨A, c, blk_new W1 _, HB.out.size, HR.out, below_alloc HB.out _⟩
    have hge1 : w.heap.size ≤ W1.heap.size := HB.out.size
    have HA := Aside0.mk (all_any a w HE.out l _ W1.heap.size hm HS.out HP.out)
    go_wp2_with fail
    refine HA.out.mono ?_
    obtain ⟨g, hg⟩ : ∃ g, W1.heap.size = g := ⟨_, rfl⟩
    rw [hg] at HP hge1 ⊢
    clear hg HA
    generalize W1.alloc (.cells #[.slice A l.length c] 141) = W2 at HP ⊢
    have hlt : g < W2.heap.size := HP.out.lt
    have HB2 := Aside0.mk HP.out.below
    cases hal : allP l with
    | none =>
      rw [hal] at HO
      have HO2 : Except.error 7 = o := HO.out
      subst HO2
      rintro e W3 ⟨hk, v, rfl⟩
      have HB3 := Aside0.mk (HB2.out.trans (hk.below (fun z h => by omega) HB2.out.size))
      have hge := HE.out.below HB3.out
      unfold GE at hge
      clear hk
      go_wp2_with fail
      refine (is_same a _).mono ?_
      rintro e w' ⟨rfl, rfl⟩
      go_wp2
      go_ret2
      exact ⟨HB3.out, rfl⟩
    | some nd =>
      rw [hal] at HO
      have HO2 : (if nd.fitsP = true then Except.ok nd else Except.error 11) = o := HO.out
      have hpp : parse l = some (nd, []) := by
        unfold allP at hal
        cases hp : parse l with
        | none => rw [hp] at hal; cases hal
        | some z =>
          obtain ⟨x, r⟩ := z
          rw [hp] at hal
          simp only at hal
          split at hal
          · rename_i hr; cases hal; rw [hr]
          · cases hal
      have hsm := (parse_sm hpp HS.out hm).1
      have hcn := parse_cnt hpp
      simp only [List.length_nil] at hcn
      have hlc := len_cnt nd
      clear hpp hal HO
      rintro e W3 ⟨hk, A3, c3, rfl, hR3⟩
      have HB3 := Aside0.mk (HB2.out.trans (hk.below (fun z h => by omega) HB2.out.size))
      have hge := HE.out.below HB3.out
      unfold GE at hge
      have HR3 := Aside0.mk (Kd.R_mono (Kd.R_lower hR3 HB2.out.size) (fun z hz => Nat.le_trans HB2.out.size hz))
      have hf := fits_any nd A3 c3 W3 hsm (Rd_of_R hR3) (by omega) (by omega)
      clear hk hR3 hsm
      go_wp2_with fail
      refine (is_nil a _).mono ?_
      rintro e w' ⟨rfl, rfl⟩
      cases hfp : nd.fitsP with
      | false =>
        rw [hfp] at hf HO2
        have HO3 : Except.error 11 = o := HO2
        subst HO3
        clear HO2 hfp
        go_wp2_with fail
        refine hf.mono ?_
        rintro e W4 ⟨rfl, hb⟩
        have HB4 := Aside0.mk (below_step HB3.out hb)
        clear hb hf
        go_wp2
        go_ret2
        exact ⟨HB4.out, rfl⟩
      | true =>
        rw [hfp] at hf HO2
        have HO3 : Except.ok nd = o := HO2
        subst HO3
        clear HO2 hfp
        go_wp2_with fail
        refine hf.mono ?_
        rintro e W4 ⟨rfl, hb⟩
        have HB4 := Aside0.mk (below_step HB3.out hb)
        have HR4 := Aside0.mk (Kd.R_below HR3.out hb)
        clear hb hf
        go_wp2
        go_ret2
        exact ⟨HB4.out, _, _, rfl, HR4.out, Rd_of_R HR4.out⟩
theorem tokensS_long (s : S) (hs : 1024 < s.length) (w : World) (h2 : s.length ≤ 1048576) :
    Calls Tryz.prog 65 #[.string (bs s)] w fun e w' => e = .returned (.tuple #[.slice none 0 0, .int .i64 12]) ∧ w' = w := by
  have hl1 : decide ((1024 : Int) < (((bs s).size : Nat) : Int)) = true := by rw [decide_eq_true_eq, bs_size]; omega
  have hl2 : decide (1024 < (bs s).size) = true := by rw [decide_eq_true_eq, bs_size]; omega
  go_enter Tryz.func65, Tryz.ntmps65
  go_wp2
  go_ret2
  exact ⟨rfl, rfl⟩
set_option maxRecDepth 100000 in
theorem parse_any (s : S) (hs : s.length ≤ 1048576) (w : World) (hG : Glob w) : Calls Tryz.prog 36 #[.string (bs s)] w (PRet (parseS s) w) := by
  unfold parseS
  by_cases hl : 1024 < s.length
  · rw [if_pos hl]
    have h := tokensS_long s hl w hs
    go_enter Tryz.func36, Tryz.ntmps36
    go_wp2_with fail
    refine h.mono ?_
    rintro e W1 ⟨rfl, rfl⟩
    go_wp2
    go_ret2
    exact ⟨Below.refl _ _, rfl⟩
  · rw [if_neg hl]
    have h := tokensS_any s (by omega) w hG
    have hsm := toksS_sm (s.length + 1) s
    cases ht : toksS (s.length + 1) s with
    | none =>
      rw [ht] at h
      clear hsm ht
      go_enter Tryz.func36, Tryz.ntmps36
      go_wp2_with fail
      refine h.mono ?_
      rintro e W1 ⟨rfl, hb⟩
      have HB := Aside0.mk hb
      clear hb h
      go_wp2
      go_ret2
      exact ⟨HB.out, rfl⟩
    | some l =>
      rw [ht] at h
      obtain ⟨h1, h2⟩ := hsm l ht (by omega)
      have HS := Aside0.mk h1
      have HG := Aside0.mk hG
      clear hsm ht h1 hG
      obtain ⟨o, ho⟩ : ∃ o, nodesP l = o := ⟨_, rfl⟩
      simp only [ho]
      have HO := Aside0.mk ho
      clear ho
      go_enter Tryz.func36, Tryz.ntmps36
      go_wp2_with fail
      refine h.mono ?_
      rintro e W1 ⟨⟨v, rfl, hR⟩, hb⟩
      obtain ⟨A, c, rfl, hRT⟩ := rdT_of_R hR
      have hn := nodesW_any l A c W1 (HG.out.below hb) hRT (by omega) HS.out
      have HB := Aside0.mk hb
      clear hb h hR hRT
      rw [HO.out] at hn
      cases o with
      | error k =>
        go_wp2_with fail
        refine hn.mono ?_
        rintro e W2 ⟨hb2, rfl⟩
        have HB2 := Aside0.mk (below_step HB.out hb2)
        clear hb2 hn
        go_wp2
        go_ret2
        exact ⟨HB2.out, rfl⟩
      | ok nd =>
        go_wp2_with fail
        refine hn.mono ?_
        rintro e W2 ⟨hb2, A2, c2, rfl, hR2, hRd⟩
        have HB2 := Aside0.mk (below_step HB.out hb2)
        have HR2 := Aside0.mk (Kd.R_mono (Kd.R_lower hR2 HB.out.size) (fun z hz => Nat.le_trans HB.out.size hz))
        have HRd := Aside0.mk hRd
        clear hb2 hn hR2 hRd
        go_wp2
        go_ret2
        exact ⟨HB2.out, _, _, rfl, HR2.out, HRd.out⟩
end Go.Proofs.YtniibpndgcndbaaGreatDoor.Tpl
namespace Go.Proofs.YtniibpndgcndbaaGreatDoor.Tpl
open Go.RowKit Go.Proofs Go.Proofs.YtniibpndgcndbaaGreatDoor.PB Go.Proofs.YtniibpndgcndbaaGreatDoor.Short Go.Proofs.YtniibpndgcndbaaGreatDoorW.PrintWords Go.Proofs.YtniibpndgcndbaaGreatDoorW.PrintLast Go.Proofs.YtniibpndgcndbaaGreatDoorW.PrintMore
def TextP (s : S) (v : Val) (c : Nat) : Except Int S := match parseS s with
  | .error k => .error k
  | .ok nd => FillP escT nd v c
theorem TextRet.after {o : Except Int S} {w w1 w2 : World} {e : Ending} (h : TextRet o w1 e w2) (hb : Below w.heap.size w w1) : TextRet o w e w2 := ⟨below_step hb h.1, h.2⟩
def tOf : Except Int S → S
  | .ok s => s
  | .error _ => []
def kOf : Except Int S → Int
  | .ok _ => 0
  | .error k => k
theorem TextRet.uni {o : Except Int S} {w w1 : World} {e : Ending} (h : TextRet o w e w1) : Below w.heap.size w w1 ∧ e = .returned (.tuple #[.string (bs (tOf o)), .int .i64 (kOf o)]) := by
  obtain ⟨hb, h⟩ := h
  cases o with
  | ok s => exact ⟨hb, h⟩
  | error k => exact ⟨hb, h⟩
set_option maxHeartbeats 1000000 in
set_option maxRecDepth 100000 in
theorem text_any (s : S) (hs : s.length ≤ 1048576) (hpo : ∀ nd, parseS s = .ok nd → nd.sm ∧ nd.len ≤ 1048576 ∧ nd.cnt ≤ 1048576) (v : Val) (A3 : Option Addr) (c3 : Nat) (A4 : Option Addr) (c4 : Nat) (c : Nat) (w : World) (hG : GlobR w) (hv : v.fit) (hV : RdV w v A3 c3 A4 c4) :
    Calls Tryz.prog 28 #[.string (bs s), vAgg v A3 c3 A4 c4, .int .u8 c] w (TextRet (TextP s v c) w) := by
  obtain ⟨o, ho⟩ : ∃ o, TextP s v c = o := ⟨_, rfl⟩
  rw [ho]
  have HO := Aside0.mk ho
  have hb1 := below_alloc (Below.refl w.heap.size w) (vObj v.k v.t v.n v.i v.m A3 c3 A4 c4)
  have BK1 := blk_new w (vObj v.k v.t v.n v.i v.m A3 c3 A4 c4)
  have HB1 := Aside0.mk hb1
  have HG := Aside0.mk hG
  have HV := Aside0.mk hV
  have HF := Aside0.mk hv
  have hps := parse_any s hs (w.alloc (vObj v.k v.t v.n v.i v.m A3 c3 A4 c4)) (hG.below hb1).glob
  have HPO := Aside0.mk hpo
  clear ho hb1 hG hV hv hpo
  go_enter Tryz.func28, Tryz.ntmps28
  go_upto_region 1 with (fail)
  generalize w.alloc (vObj v.k v.t v.n v.i v.m A3 c3 A4 c4) = W at BK1 HB1 hps ⊢
  generalize w.heap.size = b1 at BK1 ⊢
  cases hp : parseS s with
  | error k =>
    rw [hp] at hps
    have ho : Except.error k = o := by rw [← HO.out]; unfold TextP; rw [hp]
    subst ho
    have hk : (k == 0) = false := by
      rw [beq_eq_false_iff_ne]
      intro h0
      subst h0
      unfold parseS nodesP at hp
      repeat' split at hp
      all_goals cases hp
    clear hp
    go_wp2_with fail
    refine hps.mono ?_
    rintro e w2 ⟨hb, rfl⟩
    have HB2 := Aside0.mk (below_step HB1.out hb)
    clear hps hb
    go_wp2
    go_ret2
    exact ⟨HB2.out, rfl⟩
  | ok nd =>
    rw [hp] at hps
    have ho : FillP escT nd v c = o := by rw [← HO.out]; unfold TextP; rw [hp]
    obtain ⟨hn1, hn2, hn3⟩ := HPO.out nd hp
    clear hp HPO
    go_wp2_with fail
    refine hps.mono ?_
    rintro e w2 ⟨hb, A, c0, rfl, _, hR⟩
    have HB2 := Aside0.mk (below_step HB1.out hb)
    obtain ⟨y0, y1, y2, y3, y4, -⟩ := cells_5 (blk_below BK1 hb)
    have hfl := fill_any nd A c0 v A3 c3 A4 c4 c w2 (HG.out.below HB2.out) hn1 hn2 hn3 hR HF.out (HV.out.below HB2.out)
    rw [ho] at hfl
    clear hps hb BK1 ho hR hn1 hn2 hn3
    go_wp2_with fail
    refine hfl.mono ?_
    rintro e w3 hret
    have HR := Aside0.mk (hret.after HB2.out)
    obtain ⟨_, rfl⟩ := hret.uni
    clear hfl hret
    generalize bs (tOf o) = rt at HR ⊢
    generalize kOf o = rk at HR ⊢
    go_wp2
    go_ret2
    exact HR.out
end Go.Proofs.YtniibpndgcndbaaGreatDoor.Tpl
namespace Go.Proofs.YtniibpndgcndbaaGreatDoor.Tpl
open Go.RowKit Go.Proofs Go.Proofs.YtniibpndgcndbaaGreatDoor.PB Go.Proofs.YtniibpndgcndbaaGreatDoor.Short Go.Proofs.YtniibpndgcndbaaGreatDoorW.PrintWords Go.Proofs.YtniibpndgcndbaaGreatDoorW.PrintLast Go.Proofs.YtniibpndgcndbaaGreatDoorW.PrintMore
def srcA : S := [123, 123, 101, 97, 99, 104, 32, 108, 125, 125, 123, 123, 116, 104, 105, 115, 125, 125, 44, 123, 123, 101, 110, 100, 125, 125, 60, 123, 123, 105, 102, 32, 110, 125, 125, 120, 123, 123, 101, 108, 115, 101, 125, 125, 121, 123, 123, 101, 110, 100, 125, 125, 123, 123, 105, 102, 32, 109, 125, 125, 122, 123, 123, 101, 110, 100, 125, 125]
def srcM : S := [123, 123, 109, 125, 125]
def srcE : S := [123, 123, 101, 97, 99, 104, 32, 110, 125, 125, 123, 123, 101, 110, 100, 125, 125]
def srcL : S := [97, 123, 123, 108, 125, 125]
def ndA : Nodes := .cons 5 [] [[108]] (.cons 2 [] [thisS] .nil .nil (.cons 1 [44] [] .nil .nil .nil)) .nil (.cons 1 [60] [] .nil .nil (.cons 3 [] [[110]] (.cons 1 [120] [] .nil .nil .nil) (.cons 1 [121] [] .nil .nil .nil) (.cons 3 [] [[109]] (.cons 1 [122] [] .nil .nil .nil) .nil .nil)))
def ndM : Nodes := .cons 2 [] [[109]] .nil .nil .nil
def ndE : Nodes := .cons 5 [] [[110]] .nil .nil .nil
def ndL : Nodes := .cons 1 [97] [] .nil .nil (.cons 2 [] [[108]] .nil .nil .nil)
def it0 : Val := ⟨2, [], 1, .nil, []⟩
def itB : Val := ⟨3, [], 0, .nil, []⟩
def itL : Vals := .cons 2 [] 1 .nil [] (.cons 1 [60] 0 .nil [] .nil)
def itV : Vals := .cons 4 [] 0 itL [] (.cons 3 [] 0 .nil [] .nil)
def valV : Val := ⟨5, [], 0, itV, [[108], [110]]⟩
theorem parseA : parseS srcA = .ok ndA := by kernel_rfl
theorem parseM : parseS srcM = .ok ndM := by kernel_rfl
theorem parseE : parseS srcE = .ok ndE := by kernel_rfl
theorem parseL : parseS srcL = .ok ndL := by kernel_rfl
theorem textA : TextP srcA valV 2 = .ok [49, 44, 38, 108, 116, 59, 44, 60, 121] := by kernel_rfl
theorem textM : TextP srcM valV 2 = .error 3 := by kernel_rfl
theorem textE : TextP srcE valV 2 = .error 7 := by kernel_rfl
theorem textL : TextP srcL valV 3 = .ok [97, 50] := by kernel_rfl
theorem meansN : MeansP [[110]] valV (.cons 2 [] 1 .nil [] .nil) = .ok itB := by kernel_rfl
theorem meansT : MeansP [thisS] valV (.cons 2 [] 1 .nil [] .nil) = .ok it0 := by kernel_rfl
theorem meansO : MeansP [thisS] valV .nil = .error 3 := by kernel_rfl
theorem fillZ : FillP escT .nil Val.zero 1 = .error 2 := by kernel_rfl
theorem poA : ∀ nd, parseS srcA = .ok nd → nd.sm ∧ nd.len ≤ 1048576 ∧ nd.cnt ≤ 1048576 := by intro nd h; rw [parseA] at h; cases h; exact ⟨by simp [ndA, Nodes.sm, thisS, Nodes.len], by decide, by decide⟩
theorem poM : ∀ nd, parseS srcM = .ok nd → nd.sm ∧ nd.len ≤ 1048576 ∧ nd.cnt ≤ 1048576 := by intro nd h; rw [parseM] at h; cases h; exact ⟨by simp [ndM, Nodes.sm, Nodes.len], by decide, by decide⟩
theorem poE : ∀ nd, parseS srcE = .ok nd → nd.sm ∧ nd.len ≤ 1048576 ∧ nd.cnt ≤ 1048576 := by intro nd h; rw [parseE] at h; cases h; exact ⟨by simp [ndE, Nodes.sm, Nodes.len], by decide, by decide⟩
theorem poL : ∀ nd, parseS srcL = .ok nd → nd.sm ∧ nd.len ≤ 1048576 ∧ nd.cnt ≤ 1048576 := by intro nd h; rw [parseL] at h; cases h; exact ⟨by simp [ndL, Nodes.sm, Nodes.len], by decide, by decide⟩
theorem valV_fit : valV.fit := ⟨by simp [valV, Val.sm, Val.one, Vals.sm, itV, itL, Vals.len], by decide⟩
abbrev c5 (k : Nat) (t : S) (n : Int) (i : Vals) (m : List S) (A3 : Option Addr) (d3 : Nat) (A4 : Option Addr) (d4 : Nat) : List Value := [.int .u8 k, .string (bs t), .int .i64 n, .slice A3 i.len d3, .slice A4 m.length d4]
theorem rd_two {W : World} {b k k' d3 d4 d3' d4' : Nat} {t t' : S} {n n' : Int} {i i' : Vals} {m m' : List S} {A3 A4 A3' A4' : Option Addr} (h : W.heap[b]? = some (.cells (c5 k t n i m A3 d3 A4 d4 ++ c5 k' t' n' i' m' A3' d3' A4' d4').toArray 43 (0, 0))) (h3 : Vals.Rd W A3 d3 i) (h4 : RdS W A4 d4 m) (h3' : Vals.Rd W A3' d3' i') (h4' : RdS W A4' d4' m') :
    Vals.Rd W (some ⟨b, 0, none⟩) 2 (.cons k t n i m (.cons k' t' n' i' m' .nil)) := by
  refine ⟨⟨rfl, by simp [Vals.len], fun _ => ⟨_, rfl, fun j x hx => ?_⟩⟩, Nat.le_refl _⟩
  match j, hx with
  | 0, hx =>
    obtain rfl : (⟨k, bs t, n, i.of, m.map bs⟩ : SV) = x := by simpa [Vals.of] using hx
    refine ⟨_, rfl, k43_mk W (⟨k, bs t, n, i.of, m.map bs⟩ : SV) (A3 := A3) (c3 := d3) (by simpa [Vals.of_len] using h3.2) (by simpa [Vals.of_len] using h3.1) (A4 := A4) (c4 := d4) (by simpa using h4.2) (by simpa using h4.1), fun q u hq => ?_⟩
    have hc := blk_cell h q
    have e : (Addr.add ⟨b, 0, none⟩ (0 * kV.sz + q)) = ⟨b, q, none⟩ := by rw [Addr.add_lit]; congr 1; omega
    rw [e, hc]
    simp only [Vals.of_len, List.length_map] at hq
    have hl := (List.getElem?_eq_some_iff.1 hq).1
    rw [List.getElem?_toArray, List.getElem?_append_left hl]
    exact hq
  | 1, hx =>
    obtain rfl : (⟨k', bs t', n', i'.of, m'.map bs⟩ : SV) = x := by simpa [Vals.of] using hx
    refine ⟨_, rfl, k43_mk W (⟨k', bs t', n', i'.of, m'.map bs⟩ : SV) (A3 := A3') (c3 := d3') (by simpa [Vals.of_len] using h3'.2) (by simpa [Vals.of_len] using h3'.1) (A4 := A4') (c4 := d4') (by simpa using h4'.2) (by simpa using h4'.1), fun q u hq => ?_⟩
    have hc := blk_cell h (5 + q)
    have e : (Addr.add ⟨b, 0, none⟩ (1 * kV.sz + q)) = ⟨b, 5 + q, none⟩ := by rw [Addr.add_lit]; show (⟨b, 0 + (1 * 5 + q), none⟩ : Addr) = _; congr 1; omega
    rw [e, hc]
    simp only [Vals.of_len, List.length_map] at hq
    rw [List.getElem?_toArray, List.getElem?_append_right (by simp)]
    simpa using hq
  | j + 2, hx => simp [Vals.of] at hx
theorem rd_one {W : World} {b k d3 d4 : Nat} {t : S} {n : Int} {i : Vals} {m : List S} {A3 A4 : Option Addr} (h : W.heap[b]? = some (.cells (c5 k t n i m A3 d3 A4 d4).toArray 43 (0, 0))) (h3 : Vals.Rd W A3 d3 i) (h4 : RdS W A4 d4 m) :
    Vals.Rd W (some ⟨b, 0, none⟩) 1 (.cons k t n i m .nil) := by
  refine ⟨⟨rfl, by simp [Vals.len], fun _ => ⟨_, rfl, fun j x hx => ?_⟩⟩, Nat.le_refl _⟩
  match j, hx with
  | 0, hx =>
    obtain rfl : (⟨k, bs t, n, i.of, m.map bs⟩ : SV) = x := by simpa [Vals.of] using hx
    refine ⟨_, rfl, k43_mk W (⟨k, bs t, n, i.of, m.map bs⟩ : SV) (A3 := A3) (c3 := d3) (by simpa [Vals.of_len] using h3.2) (by simpa [Vals.of_len] using h3.1) (A4 := A4) (c4 := d4) (by simpa using h4.2) (by simpa using h4.1), fun q u hq => ?_⟩
    have hc := blk_cell h q
    have e : (Addr.add ⟨b, 0, none⟩ (0 * kV.sz + q)) = ⟨b, q, none⟩ := by rw [Addr.add_lit]; congr 1; omega
    rw [e, hc]
    simp only [Vals.of_len, List.length_map] at hq
    rw [List.getElem?_toArray]
    exact hq
  | j + 1, hx => simp [Vals.of] at hx
end Go.Proofs.YtniibpndgcndbaaGreatDoor.Tpl
