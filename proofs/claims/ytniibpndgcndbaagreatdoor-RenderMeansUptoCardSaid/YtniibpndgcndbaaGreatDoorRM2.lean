/- Part 2 of the proof (texts of this claim, merged in build order; what the claim does not need has been left out). -/
import Derived.Test.YtniibpndgcndbaaGreatDoorRM1
import Derived.Deep.DrawnRows
import Derived.Deep.RegionHeld3
import Derived.Deep.RegionLaw
import Derived.Deep.RegionWith
import Derived.Lib.ItoaNum
import Derived.WalkSpells
set_option linter.unusedVariables false
set_option linter.unusedSimpArgs false
namespace Go.Proofs.YtniibpndgcndbaaGreatDoor.Tpl
open Go.RowKit Go.Proofs.YtniibpndgcndbaaGreatDoor.PB Go.Proofs.YtniibpndgcndbaaGreatDoor.Short Go.Proofs.YtniibpndgcndbaaGreatDoorW.PrintWords Go.Proofs.YtniibpndgcndbaaGreatDoorW.PrintLast Go.Proofs.YtniibpndgcndbaaGreatDoorW.PrintMore Nodes
attribute [local go_sem ↓] Go.wp_at_zero Go.wp_at_succ
structure KeepP (ok : Nat → Prop) (w w' : World) : Prop where
  os : w'.os = w.os
  tape : w'.tape = w.tape
  output : w'.output = w.output
  size : w.heap.size ≤ w'.heap.size
  blk : ∀ i, i < w.heap.size → ¬ ok i → w'.heap[i]? = w.heap[i]?
namespace KeepP
variable {ok ok' : Nat → Prop} {w w1 w2 : World}
theorem refl (w : World) : KeepP ok w w := ⟨rfl, rfl, rfl, Nat.le_refl _, fun _ _ _ => rfl⟩
theorem trans (h : KeepP ok w w1) (k : KeepP ok w1 w2) : KeepP ok w w2 := ⟨k.os.trans h.os, k.tape.trans h.tape, k.output.trans h.output, Nat.le_trans h.size k.size, fun i hi hn => (k.blk i (Nat.lt_of_lt_of_le hi h.size) hn).trans (h.blk i hi hn)⟩
theorem mono (h : KeepP ok w w1) (hk : ∀ k, ok k → ok' k) : KeepP ok' w w1 := ⟨h.os, h.tape, h.output, h.size, fun i hi hn => h.blk i hi (fun c => hn (hk i c))⟩
theorem of_below (h : Below w.heap.size w w1) : KeepP ok w w1 := ⟨h.os, h.tape, h.output, h.size, fun i hi _ => h.block i hi⟩
theorem grown {row : Option Nat} (h : w.grownBy w1 row) (hr : ∀ k, row = some k → ok k) : KeepP ok w w1 := ⟨h.os, h.tape, h.output, h.size, fun i hi hn => h.block i hi (fun e => hn (hr i e.symm))⟩
theorem below (h : KeepP ok w w1) {B : Nat} (hB : ∀ k, ok k → B ≤ k) (hle : B ≤ w.heap.size) : Below B w w1 := ⟨h.os, h.tape, h.output, h.size, fun i hi => h.blk i (Nat.lt_of_lt_of_le hi hle) (fun c => by have := hB i c; omega)⟩
theorem blkOf (h : KeepP ok w w1) {g : Nat} {o : Obj} (hg : w.heap[g]? = some o) (hn : ¬ ok g) : w1.heap[g]? = some o := (h.blk g (blk_lt hg) hn).trans hg
end KeepP
theorem info_str : (Tryz.prog.info? 9).map (fun i => (i.zero, i.size, i.bytes)) = some (some (.string ⟨#[]⟩), 1, 16) := by kernel_rfl
set_option maxHeartbeats 1000000 in
set_option maxRecDepth 100000 in
/-- slices.Clone of texts -/
theorem clone_any (A : Option Addr) (c : Nat) (p : List ByteArray) (w : World) (hC : Kd.string.C w A p.length p) (hn : p.length ≤ 1048576) :
    Calls Tryz.prog 136 #[.slice A p.length c] w fun e w' => ∃ v', e = .returned v' ∧ Kd.string.R 9 w' w.heap.size (fun k => w.heap.size ≤ k) v' p ∧ Below w.heap.size w w' := by
  have q24 : ∀ (w : World) (a : Option Addr) (n c n' c' : Nat), (binOp .eql 23 (.slice a n c) (.slice none n' c')).run Tryz.prog w = .ok (.bool a.isNone) w := fun w a n c n' c' => Lib.run_eql_slice_nil w _ _ a n c n' c' Tryz.underlying23
  cases A with
  | none =>
    have h0 : p = [] := by
      cases p with
      | nil => rfl
      | cons x r => obtain ⟨ad, e, _⟩ := hC.2.2 (by simp); cases e
    subst h0
    go_enter Tryz.func136, Tryz.ntmps136
    go_wp2
    go_ret
    exact ⟨_, rfl, Kd.R_nil _ _ _ _ _, Below.refl _ _⟩
  | some ad =>
    obtain ⟨i0, hi, hz0, hz1, hz2⟩ := info_parts info_str
    have A := Aside0.mk hC
    clear hC
    go_enter Tryz.func136, Tryz.ntmps136
    go_wp2_with (at_builtin; refine wpList_append_own _ rfl _ _ 23 rfl w.heap.size 9 i0 (.string { data := #[] }) 1 16 Tryz.underlying23 hi hz0 hz1 hz2 rfl (by decide) _ _ _ rfl (World.ownsRow_made w #[] 0 (Nat.le_refl _) (Nat.zero_le _) rfl) ad p.length c (p.map (Value.string)) rfl ?qc1 ?qc2 ?qc3 ?qc4 ?qc5 ?qc6 ?_)
    case qc1 => simp
    case qc2 =>
      intro j u hj
      have hjn : j < p.length := by have := (List.getElem?_eq_some_iff.1 hj).1; simpa using this
      refine Lib.cell?_alloc_some _ ?_
      obtain ⟨ad', e, hc⟩ := A.out.2.2 (by omega)
      cases e
      obtain ⟨cs, hl, hk, hcell⟩ := hc j _ (List.getElem?_eq_getElem hjn)
      have hk' : cs = [.string p[j]] := hk
      subst hk'
      have h0 := hcell 0 _ rfl
      rw [List.getElem?_map, List.getElem?_eq_getElem hjn] at hj
      cases hj
      simpa [Kd.string, Kd.scalar] using h0
    case qc3 => intro u hu; obtain ⟨x, _, rfl⟩ := List.mem_map.1 hu; rfl
    case qc4 => unfold maxLen; omega
    case qc5 => omega
    case qc6 => simp
    intro v' w1 hown hgrow hnil
    go_wp2
    go_ret
    have ho : w1.ownsRow w.heap.size 9 1 v' p.length (encs Value.string p) := by simpa [encs] using hown
    exact ⟨v', rfl, Kd.R_of_own ho (fun k hk => own_base ho k hk), ((Below.refl _ w).alloc (Nat.le_refl _) _).grown hgrow (by simp) (by intro k hk; simp [Value.ownBlock] at hk; omega)⟩
theorem clone_S (A : Option Addr) (c : Nat) (p : List S) (w : World) (hC : Kd.string.C w A p.length (p.map bs)) (hn : p.length ≤ 1048576) :
    Calls Tryz.prog 136 #[.slice A p.length c] w fun e w' => ∃ Av cv, e = .returned (.slice Av p.length cv) ∧ Kd.string.R 9 w' w.heap.size (fun k => w.heap.size ≤ k) (.slice Av p.length cv) (p.map bs) ∧ Below w.heap.size w w' := by
  have h := clone_any A c (p.map bs) w (by simpa using hC) (by simpa using hn)
  rw [List.length_map] at h
  refine h.mono ?_
  rintro e w' ⟨v, rfl, hv, hb⟩
  obtain ⟨Av, cv, e⟩ := Kd.R_slice hv
  rw [List.length_map] at e
  subst e
  exact ⟨Av, cv, rfl, hv, hb⟩
def Tok.of (x : Tok) : ST := ⟨x.k, bs x.t, x.p.map bs⟩
def tokv (l : List Tok) : List ST := l.map Tok.of
theorem tokM (w : World) (base k : Nat) : kT.M w base (fun _ => False) (Tok.of ⟨k, [], []⟩) [.int .u8 k, .string ⟨#[]⟩, .slice none 0 0] := k101_mkM w base _ (Tok.of ⟨k, [], []⟩) (Kd.R_nil _ _ _ _ _)
theorem toks_len (l : Nodes) : (tokv l.toks).length ≤ 3 * l.cnt := by
  unfold tokv
  rw [List.length_map]
  induction l with
  | nil => simp [toks]
  | cons k t p a b r iha ihb ihr =>
    simp only [toks, cnt, List.length_cons, List.length_append]
    split
    · simp only [List.length_append, List.length_cons, List.length_nil]
      cases b with
      | nil => simp [isNil]; simp only [cnt, toks, List.length_nil] at *; omega
      | cons => simp only [isNil, Bool.false_eq_true, if_false, List.length_cons] at *; simp only [cnt] at *; omega
    · simp; omega
theorem put_bounds {ca cb cr cd la l2 l3 ta tb m cl : Nat} (h1 : 1 + ca + cb + cr = cd) (h2 : cd ≤ cl) (h3 : cl ≤ m + 1) (hx : cd * 3 + la ≤ 1048576) (h4 : ta ≤ 3 * ca) (h5 : tb ≤ 3 * cb) (h6 : l2 = la + 1) (h7 : l3 = l2 + ta) :
    (l3 + 1) * 48 ≤ 140737488355328 ∧ cb * 3 + (l3 + 1) ≤ 1048576 ∧ cr * 3 + (l3 + 1) ≤ 1048576 ∧ cr * 3 + (l3 + 1 + tb + 1) ≤ 1048576 ∧ cb ≤ m ∧ (l3 + 1 + tb + 1) * 48 ≤ 140737488355328 := by omega
theorem put_bounds1 {ca cb cr cd la m cl : Nat} (h1 : 1 + ca + cb + cr = cd) (h2 : cd ≤ cl) (h3 : cl ≤ m + 1) (hx : cd * 3 + la ≤ 1048576) : ca ≤ m ∧ ca * 3 + (la + 1) ≤ 1048576 ∧ cr * 3 + (la + 1) ≤ 1048576 := by omega
theorem le48 {n x : Nat} (h : x + n ≤ 1048576) : (n + 1) * 48 ≤ 140737488355328 := by omega
set_option maxHeartbeats 4000000 in
set_option maxRecDepth 100000 in
theorem put_any (w0 : World) (m : Nat) : ∀ (l : Nodes) (A : Option Addr) (c : Nat) (xs : List ST) (v : Value) (ok : Nat → Prop) (w : World), l.cnt ≤ m → l.cnt * 3 + xs.length ≤ 1048576 → l.sm → Rd w0 A c l → Below w0.heap.size w0 w → (∀ k, ok k → w0.heap.size ≤ k) → (∀ k, w.heap.size ≤ k → ok k) → kT.R 101 w w0.heap.size ok v xs →
    Calls Tryz.prog 92 #[v, .slice A l.len c] w fun e w' => ∃ v', e = .returned v' ∧ kT.R 101 w' w0.heap.size ok v' (xs ++ tokv l.toks) ∧ KeepP ok w w' := by
  induction m with
  | zero =>
    intro l A c xs v ok w hm
    cases l with
    | cons => simp [cnt] at hm
    | nil =>
      intro _ _ _ _ _ _ hR
      go_enter Tryz.func92, Tryz.ntmps92
      go_wp2
      refine wp_loop_rounds 1 ?_
      rw [rounds_succ]
      go_wp2
      go_ret
      exact ⟨_, rfl, by simpa [toks, tokv] using hR, KeepP.refl _⟩
  | succ m ih =>
    intro l A c xs v ok w hm hx hs hR hB hok hfr hO
    have HR := Aside0.mk hR
    have HS := Aside0.mk hs
    have HB := Aside0.mk hB
    have HM := Aside0.mk hm
    have HX := Aside0.mk hx
    have HO := Aside0.mk hO
    have HOK := Aside0.mk hok
    have HFR := Aside0.mk hfr
    have hll := hR.1.2.1
    clear hR hs hB hm hx hO hok hfr
    go_enter Tryz.func92, Tryz.ntmps92
    go_wp2
    go_loopw [0, 9] (fun v0 v9 wr => ∃ (i : Nat) (acc : List ST), v9 = .int .i64 i ∧ i ≤ l.len ∧ Aside0 (xs ++ tokv l.toks = acc ++ tokv (l.drop i).toks) ∧ Aside0 ((l.drop i).cnt * 3 + acc.length ≤ 1048576) ∧ Aside0 (kT.R 101 wr w0.heap.size ok v0 acc) ∧ Aside0 (KeepP ok w wr))
      (fun _ v _ => l.len - (intOf v).toNat)
    case atStart => exact ⟨0, xs, rfl, Nat.zero_le _, by rw [drop_zero]; exact ⟨rfl⟩, by rw [drop_zero]; exact HX, HO, ⟨KeepP.refl _⟩⟩
    case round =>
      clear HO HX
      obtain ⟨i, acc, rfl, hi, HE, HX, HO, HK⟩ := hrel
      cases hd : l.drop i with
      | nil =>
        have h1 := drop_nil hd
        obtain rfl : i = l.len := by omega
        rw [hd] at HE
        clear hd
        go_wp2
        go_ret
        exact ⟨_, rfl, by rw [HE.out]; simpa [toks, tokv] using HO.out, HK.out⟩
      | cons k t p a b r =>
        obtain ⟨h1, h2, _⟩ := drop_step hd
        have HBr := Aside0.mk (HB.out.trans (HK.out.below HOK.out HB.out.size))
        obtain ⟨ad, A2, c2, A3, c3, A4, c4, rfl, y0, y1, y2, y3, y4, i2, l2, R3, R4⟩ := HR.out.at hd
        replace y0 := (HBr.out.cell (World.block_lt_of_cell? _ _ y0)).trans y0
        replace y1 := (HBr.out.cell (World.block_lt_of_cell? _ _ y1)).trans y1
        replace y2 := (HBr.out.cell (World.block_lt_of_cell? _ _ y2)).trans y2
        replace y3 := (HBr.out.cell (World.block_lt_of_cell? _ _ y3)).trans y3
        replace y4 := (HBr.out.cell (World.block_lt_of_cell? _ _ y4)).trans y4
        obtain ⟨s1, s2, s3, s4, s5, s6, s7, s8, s9⟩ : (cons k t p a b r).sm := hd ▸ sm_drop HS.out i
        have HE' : xs ++ tokv l.toks = acc ++ tokv (cons k t p a b r).toks := hd ▸ HE.out
        have HD := Aside0.mk hd
        clear hd HE
        go_wp2_with fail
        obtain ⟨g, hg⟩ : ∃ g, wr.heap.size = g := ⟨_, rfl⟩
        have BK := Aside0.mk (blk_new wr (.cells #[.int .u8 k, .string (bs t), .slice A2 p.length c2, .slice A3 a.len c3, .slice A4 b.len c4] 37))
        have HBW := Aside0.mk (below_alloc HBr.out (.cells #[.int .u8 k, .string (bs t), .slice A2 p.length c2, .slice A3 a.len c3, .slice A4 b.len c4] 37))
        have HBw := Aside0.mk (below_alloc (Below.refl wr.heap.size wr) (.cells #[.int .u8 k, .string (bs t), .slice A2 p.length c2, .slice A3 a.len c3, .slice A4 b.len c4] 37))
        generalize hW : wr.alloc (.cells #[.int .u8 k, .string (bs t), .slice A2 p.length c2, .slice A3 a.len c3, .slice A4 b.len c4] 37) = W at BK HBW HBw ⊢
        rw [hg] at BK ⊢
        obtain ⟨m0, m1, m2, m3, m4, n0, n1, n2, n3, n4⟩ := cells_5 BK.out
        have hgW : g < W.heap.size := blk_lt BK.out
        have hwW : wr.heap.size ≤ W.heap.size := HBw.out.size
        have HOW : Aside0 (kT.R 101 W w0.heap.size (fun k => ok k ∧ k ≠ g) u0 acc) := ⟨Kd.R_types (Kd.R_below HO.out HBw.out) BK.out (by decide)⟩
        have HLT : Aside0 (∀ k, u0.ownBlock = some k → k < wr.heap.size) := ⟨by obtain ⟨inner, ho⟩ := Kd.R_own HO.out; exact own_lt ho⟩
        have Hs1 : w0.heap.size ≤ W.heap.size := HBW.out.size
        have HF : Aside0 (∀ k, W.heap.size ≤ k → ok k ∧ k ≠ g) := ⟨fun k hk => ⟨HFR.out k (by have := HK.out.size; omega), by omega⟩⟩
        have HP : Aside0 (∀ k, W.heap.size ≤ k → (ok k ∧ k ≠ g) ∧ some k ≠ u0.ownBlock) := ⟨fun k hk => ⟨HF.out k hk, fun e => by have := HLT.out k e.symm; omega⟩⟩
        have HL : (acc.length + 1) * 48 ≤ 140737488355328   := le48 HX.out
        have HNE : Aside0 (some g ≠ u0.ownBlock) := ⟨fun e => by have := HLT.out g e.symm; omega⟩
        go_region_held3 (fun w' => w'.cell? ⟨g, 0, none⟩ = some (.int .u8 k) ∧ w'.cell? ⟨g, 1, none⟩ = some (.string (bs t)) ∧ w'.cell? ⟨g, 2, none⟩ = some (.slice A2 p.length c2))
          (first
            | go_keep
            | (have q := cells_5 (blk_below (w := W.drew) BK.out hb1); exact ⟨q.1, q.2.1, q.2.2.1⟩)
            | (have q := cells_5 ((hg2.block g (Nat.lt_of_lt_of_le hgW hb1.size) HNE.out).trans (blk_below (w := W.drew) BK.out hb1)); exact ⟨q.1, q.2.1, q.2.2.1⟩))
          (first
            | ((go_at_call 136; refine (clone_S A2 c2 p _ (Kd.C_below i2 (by exact belS HBW.out)) s3).mono ?_; rintro e w1 ⟨Av1, cv1, rfl, hv1, hb1⟩))
            | ((refine Kd.R_append_step kT w0.heap.size (by first | rfl | assumption) _ _ 95 101 _ 48 (by rfl) Tryz.underlying95 info101 rfl (by decide) (by decide) u0 acc ⟨k, bs t, p.map bs⟩ [.int .u8 k, .string (bs t), .slice Av1 p.length cv1] (fun k => ok k ∧ k ≠ g) (fun k => W.heap.size ≤ k) (by rfl) (by rfl) (k101_mkM _ _ _ ⟨k, bs t, p.map bs⟩ (Kd.R_lower hv1 Hs1)) HP.out (fun k hk => HF.out k (Nat.le_trans hb1.size hk)) (Kd.R_below HOW.out (below_step (below_drew1 (Below.refl W.heap.size W)) hb1)) (below_step (below_drew1 HBW.out) hb1) (Nat.le_trans Hs1 hb1.size) HL ?_; intro v2 w2 hO2 hB2 hg2 hat2)))
        have hbD : Below wr.heap.size wr w1 := below_step (below_drew1 HBw.out) hb1
        have BK2 := Aside0.mk ((hg2.block g (Nat.lt_of_lt_of_le hgW hb1.size) HNE.out).trans (blk_below (w := W.drew) BK.out hb1))
        have HK2 : Aside0 (KeepP ok w w2) := ⟨HK.out.trans ((KeepP.of_below hbD).trans (KeepP.grown hg2 (fun k hk => (HOW.out.1 k hk).1)))⟩
        have HO2 := Aside0.mk hO2
        have HNK : ¬ (ok g ∧ g ≠ g) := fun h => h.2 rfl
        have hs2 : w1.heap.size ≤ w2.heap.size := hg2.size
        have hsW : W.heap.size ≤ w1.heap.size := hb1.size
        have hwr := HK.out.size
        clear hb1 hv1 hg2 hB2 hat2 hbD hO2 HOW BK HO m0 m1 m2 m3 m4 n0 n1 n2 n3 n4 HBw HBW HLT HP HBr HK hW
        obtain ⟨m0, m1, m2, m3, m4, n0, n1, n2, n3, n4⟩ := cells_5 BK2.out
        by_cases hk : k = 3 ∨ k = 5
        · have HH : xs ++ tokv l.toks = (acc ++ [⟨k, bs t, p.map bs⟩] ++ tokv a.toks) ++ (tokv ((if b.isNil then [] else elseTok :: toks b) ++ [endTok]) ++ tokv r.toks) := by rw [HE']; simp [toks, tokv, Tok.of, hk]
          have q3 : ((k : Int) != 3 && (k : Int) != 5) = false := by rcases hk with rfl | rfl <;> decide
          have hcnt : 1 + a.cnt + b.cnt + r.cnt = (l.drop i).cnt := by rw [HD.out]; simp only [cnt]
          have hcl := cnt_drop l i
          have hm := HM.out
          have hx := HX.out
          have hta := toks_len a
          have htb := toks_len b
          have HOK' : ∀ k, ok k ∧ k ≠ g → w0.heap.size ≤ k := fun k h => HOK.out k h.1
          have HB2 := Aside0.mk (HB.out.trans (HK2.out.below HOK.out HB.out.size))
          obtain ⟨acc2, ha2⟩ : ∃ acc2, acc ++ [⟨k, bs t, p.map bs⟩] = acc2 := ⟨_, rfl⟩
          rw [ha2] at HH
          have HO2' : Aside0 (kT.R 101 w2 w0.heap.size (fun k => ok k ∧ k ≠ g) v2 acc2) := ⟨ha2 ▸ HO2.out⟩
          have hla2 : acc2.length = acc.length + 1 := by rw [← ha2]; simp
          clear ha2 HO2
          have hba := put_bounds1 hcnt hcl hm hx
          rcases hk with rfl | rfl
          all_goals
            go_wp2_with fail
            refine (ih a A3 c3 acc2 v2 (fun k => ok k ∧ k ≠ g) w2 hba.1 (hla2 ▸ hba.2.1) s7 R3 HB2.out HOK' (fun k hk => HF.out k (Nat.le_trans hsW (Nat.le_trans hs2 hk))) HO2'.out).mono ?_
            rintro e w3 ⟨v3, rfl, hO3, hK3⟩
            have BK3 := Aside0.mk (hK3.blkOf BK2.out HNK)
            have HK3 : Aside0 (KeepP ok w w3) := ⟨HK2.out.trans (hK3.mono (fun _ h => h.1))⟩
            have hs3 := hK3.size
            have HB3 := Aside0.mk (HB.out.trans (HK3.out.below HOK.out HB.out.size))
            obtain ⟨acc3, ha3⟩ : ∃ acc3, acc2 ++ tokv a.toks = acc3 := ⟨_, rfl⟩
            rw [ha3] at HH hO3
            have hla3 : acc3.length = acc2.length + (tokv a.toks).length := by rw [← ha3, List.length_append]
            have HO3 := Aside0.mk hO3
            have HF3 : ∀ k, w3.heap.size ≤ k → ok k ∧ k ≠ g := fun k hk => HF.out k (Nat.le_trans hsW (Nat.le_trans hs2 (Nat.le_trans hs3 hk)))
            have hle3 : w0.heap.size ≤ w3.heap.size := HB3.out.size
            obtain ⟨HL3, hrel, hrel2, hrel3, hbm, HL5a⟩ := put_bounds hcnt hcl hm hx hta htb hla2 hla3
            clear m0 m1 m2 m3 m4 n0 n1 n2 n3 n4 hO3 hK3 ha3 hla3 hta htb hx hm hcl hcnt
            obtain ⟨m0, m1, m2, m3, m4, n0, n1, n2, n3, n4⟩ := cells_5 BK3.out
            have HN3 : some g ≠ v3.ownBlock := fun e => (HO3.out.1 g e.symm).2 rfl
            cases hb : b.isNil with
            | true =>
              have hb0 : b.len = 0 := by simpa [isNil_len] using hb
              rw [hb0] at m4
              rw [hb] at HH
              go_wp2_with (at_builtin; refine Kd.R_append kT w0.heap.size rfl _ _ 95 101 _ 48 rfl Tryz.underlying95 info101 rfl (by decide) (by decide) v3 acc3 (Tok.of ⟨6, [], []⟩) [.int .u8 6, .string ⟨#[]⟩, .slice none 0 0] (fun k => ok k ∧ k ≠ g) (fun _ => False) rfl rfl (tokM _ _ 6) (fun _ h => h.elim) HF3 HO3.out HB3.out hle3 HL3 ?_; intro v4 w4 hO4 hB4 hg4 hat4)
              go_roundw
              case rel => exact ⟨i + 1, _, by simp, by omega, ⟨by rw [HH, h2]; simp [tokv, endTok, Tok.of]⟩, ⟨by rw [h2]; simp only [List.length_append, List.length_singleton]; exact hrel2⟩, ⟨Kd.R_mono hO4 (fun _ h => h.1)⟩, ⟨HK3.out.trans (KeepP.grown hg4 (fun k hk => (HO3.out.1 k hk).1))⟩⟩
              case measure => simp [intOf]; omega
            | false =>
              have hb0 : 0 < b.len := by have := hb; rw [isNil_len] at this; simp at this; omega
              rw [hb] at HH
              go_wp2_with fail
              go_region_held3 (fun w' => w'.cell? ⟨g, 4, none⟩ = some (.slice A4 b.len c4))
                (first
                  | go_keep
                  | exact (cells_5 ((hg4.block g (blk_lt BK3.out) HN3).trans BK3.out)).2.2.2.2.1
                  | exact (cells_5 (hK5.blkOf ((hg4.block g (blk_lt BK3.out) HN3).trans BK3.out) HNK)).2.2.2.2.1)
                (first
                  | ((refine Kd.R_append_step (W := w3.drew) kT w0.heap.size (by first | rfl | assumption) _ _ 95 101 _ 48 (by rfl) Tryz.underlying95 info101 rfl (by decide) (by decide) v3 acc3 (Tok.of ⟨4, [], []⟩) [.int .u8 4, .string ⟨#[]⟩, .slice none 0 0] (fun k => ok k ∧ k ≠ g) (fun _ => False) (by rfl) (by rfl) (tokM _ _ 4) (fun _ h => h.elim) HF3 (Kd.R_below HO3.out (below_drew1 (Below.refl _ _))) (below_drew1 HB3.out) hle3 HL3 ?_; intro v4 w4 hO4 hB4 hg4 hat4))
                  | ((go_at_call 92; refine (ih b A4 c4 (acc3 ++ [Tok.of ⟨4, [], []⟩]) v4 (fun k => ok k ∧ k ≠ g) _ hbm (by simp only [List.length_append, List.length_singleton]; exact hrel) s8 R4 hB4 HOK' (fun k hk => HF3 k (Nat.le_trans hg4.size hk)) hO4).mono ?_; rintro e w5 ⟨v5, rfl, hO5, hK5⟩)))
              have BK5 := Aside0.mk (hK5.blkOf ((hg4.block g (blk_lt BK3.out) HN3).trans BK3.out) HNK)
              have HK5 : Aside0 (KeepP ok w w5) := ⟨HK3.out.trans ((KeepP.of_below (below_drew1 (Below.refl _ _))).trans ((KeepP.grown hg4 (fun k hk => (HO3.out.1 k hk).1)).trans (hK5.mono (fun _ h => h.1))))⟩
              have hs5 : w3.heap.size ≤ w5.heap.size := Nat.le_trans hg4.size hK5.size
              have HB5 := Aside0.mk (HB.out.trans (HK5.out.below HOK.out HB.out.size))
              have HO5 := Aside0.mk hO5
              have hla5 : (acc3 ++ [Tok.of ⟨4, [], []⟩] ++ tokv b.toks).length = acc3.length + 1 + (tokv b.toks).length := by rw [List.length_append, List.length_append, List.length_singleton]
              have HL5 : ((acc3 ++ [Tok.of ⟨4, [], []⟩] ++ tokv b.toks).length + 1) * 48 ≤ 140737488355328 := by rw [hla5]; exact HL5a
              have HF5 : ∀ k, w5.heap.size ≤ k → ok k ∧ k ≠ g := fun k hk => HF3 k (Nat.le_trans hs5 hk)
              have hle5 : w0.heap.size ≤ w5.heap.size := HB5.out.size
              clear hg4 hK5 hO5 hO4 hB4 hat4 m0 m1 m2 m3 m4 n0 n1 n2 n3 n4
              go_wp2_with (at_builtin; refine Kd.R_append kT w0.heap.size rfl _ _ 95 101 _ 48 rfl Tryz.underlying95 info101 rfl (by decide) (by decide) v5 (acc3 ++ [Tok.of ⟨4, [], []⟩] ++ tokv b.toks) (Tok.of ⟨6, [], []⟩) [.int .u8 6, .string ⟨#[]⟩, .slice none 0 0] (fun k => ok k ∧ k ≠ g) (fun _ => False) rfl rfl (tokM _ _ 6) (fun _ h => h.elim) HF5 HO5.out HB5.out hle5 HL5 ?_; intro v6 w6 hO6 hB6 hg6 hat6)
              go_roundw
              case rel => exact ⟨i + 1, _, by simp, by omega, ⟨by rw [HH, h2]; simp [tokv, endTok, elseTok, Tok.of]⟩, ⟨by rw [h2, List.length_append, hla5]; exact hrel3⟩, ⟨Kd.R_mono hO6 (fun _ h => h.1)⟩, ⟨HK5.out.trans (KeepP.grown hg6 (fun k hk => (HO5.out.1 k hk).1))⟩⟩
              case measure => simp [intOf]; omega
        · have q3 : ((k : Int) != 3) = true := by rw [bne_iff_ne]; omega
          have q5 : ((k : Int) != 5) = true := by rw [bne_iff_ne]; omega
          go_wp2
          go_roundw
          case rel => exact ⟨i + 1, acc ++ [⟨k, bs t, p.map bs⟩], by simp, by omega, ⟨by rw [HE', h2]; simp [toks, tokv, Tok.of, hk]⟩, ⟨by have hcnt : 1 + a.cnt + b.cnt + r.cnt = (l.drop i).cnt := (by rw [HD.out]; simp only [cnt]); rw [h2, List.length_append, List.length_singleton]; exact (put_bounds1 hcnt (cnt_drop l i) HM.out HX.out).2.2⟩, ⟨Kd.R_mono HO2.out (fun _ h => h.1)⟩, HK2⟩
          case measure => simp [intOf]; omega
end Go.Proofs.YtniibpndgcndbaaGreatDoor.Tpl
namespace Go.Proofs.YtniibpndgcndbaaGreatDoor.Tpl
open Go.RowKit Go.Proofs.YtniibpndgcndbaaGreatDoor.PB Go.Proofs.YtniibpndgcndbaaGreatDoor.Short Go.Proofs.YtniibpndgcndbaaGreatDoorW.PrintWords Go.Proofs.YtniibpndgcndbaaGreatDoorW.PrintLast Go.Proofs.YtniibpndgcndbaaGreatDoorW.PrintMore Nodes
theorem leaf_any (k : Nat) (t : S) (p : List S) (a b : Nodes) (hp : p.length ≤ 1048576) (ha : a.len ≤ 1048576) (hb : b.len ≤ 1048576) : tree_leaf.f k (bs t) (p.map bs) a.of b.of = some (leafP k t p.length a.len b.len) := by
  unfold tree_leaf.f leafP
  simp only [List.length_map, of_len, bs_list]
  have w1 : wrap64 (wrap64 ((p.length : Int) + a.len) + b.len) = p.length + a.len + b.len := by unfold wrap64; omega
  rw [w1]
  have q : (t == []) = t.isEmpty := by cases t <;> rfl
  by_cases k1 : k = 1
  · subst k1
    rw [if_pos (show ((1 : Nat) : Int) = 1 from rfl), if_pos (show (1 : Nat) = 1 from rfl)]
    congr 1
    rw [Bool.eq_iff_iff, beq_iff_eq, beq_iff_eq]
    omega
  by_cases k2 : k = 2
  · subst k2
    rw [if_neg (show ¬ ((2 : Nat) : Int) = 1 by decide), if_pos (show ((2 : Nat) : Int) = 2 from rfl), if_neg (show ¬ (2 : Nat) = 1 by decide), if_pos (show (2 : Nat) = 2 from rfl), q]
    by_cases ha0 : a.len = 0
    · by_cases hb0 : b.len = 0
      · simp [ha0, hb0]
      · rw [if_neg (by omega), if_pos (by omega)]; simp [hb0]
    · rw [if_pos (by omega)]; simp [ha0]
  by_cases k5 : k = 5
  · subst k5
    rw [if_neg (show ¬ ((5 : Nat) : Int) = 1 by decide), if_neg (show ¬ ((5 : Nat) : Int) = 2 by decide), if_pos (show ((5 : Nat) : Int) = 5 from rfl), if_neg (show ¬ (5 : Nat) = 1 by decide), if_neg (show ¬ (5 : Nat) = 2 by decide), if_pos (show (5 : Nat) = 5 from rfl), q]
    by_cases hb0 : b.len = 0
    · simp [hb0]
    · rw [if_pos (by omega)]; simp [hb0]
  rw [if_neg (by omega), if_neg (by omega), if_neg (by omega), if_neg k1, if_neg k2, if_neg k5, q]
  by_cases k3 : k = 3
  · rw [if_pos (by omega), if_pos k3]
  · rw [if_neg (by omega), if_neg k3]
set_option maxHeartbeats 4000000 in
set_option maxRecDepth 100000 in
theorem in_any (w0 : World) (g : Nat) (hg0 : w0.heap.size ≤ g) (m : Nat) : ∀ (l : Nodes) (A : Option Addr) (c lv : Nat) (x : Int) (bad : Bool) (w : World), l.cnt ≤ m → l.sm → Rd w0 A c l → l.len ≤ 1048576 → lv ≤ 8 → -1000000000 + l.cnt ≤ x → x ≤ 1000000000 → Below w0.heap.size w0 w → w.heap[g]? = some (.cells #[.int .i64 x, .bool bad] 193 (0, 0)) →
    Calls Tryz.prog 135 #[.pointer (some ⟨g, 0, none⟩), .slice A l.len c, .int .i64 lv] w fun e w' => e = .returned (.tuple #[]) ∧ w'.heap[g]? = some (.cells #[.int .i64 (inP l lv (x, bad)).1, .bool (inP l lv (x, bad)).2] 193 (0, 0)) ∧ Below w0.heap.size w0 w' ∧ KeepBut w w' g none := by
  induction m with
  | zero =>
    intro l A c lv x bad w hm
    cases l with
    | cons => simp [cnt] at hm
    | nil =>
      intro _ _ _ _ _ _ hB hg
      go_enter Tryz.func135, Tryz.ntmps135
      go_wp2
      refine wp_loop_rounds 1 ?_
      rw [rounds_succ]
      go_wp2
      go_end0
      exact ⟨rfl, hg, hB, KeepBut.refl _ _ _⟩
  | succ m ih =>
    intro l A c lv x bad w hm hs hR hll hlv hx0 hx1 hB hg
    have HR := Aside0.mk hR
    have HG := Aside0.mk hg
    have HS := Aside0.mk hs
    have HB := Aside0.mk hB
    have HX := Aside0.mk hx0
    have HM := Aside0.mk hm
    clear hR hg hs hB hx0 hm
    go_enter Tryz.func135, Tryz.ntmps135
    go_wp2
    go_loopw [10] (fun v wr => ∃ (i : Nat) (x1 : Int) (b1 : Bool), v = .int .i64 i ∧ i ≤ l.len ∧ x1 ≤ 1000000000 ∧ Aside0 (-1000000000 + (l.drop i).cnt ≤ x1) ∧ Aside0 (inP l lv (x, bad) = inP (l.drop i) lv (x1, b1)) ∧ Aside0 (wr.heap[g]? = some (.cells #[.int .i64 x1, .bool b1] 193 (0, 0))) ∧ Aside0 (Below w0.heap.size w0 wr) ∧ Aside0 (KeepBut w wr g none))
      (fun v _ => l.len - (intOf v).toNat)
    case atStart => exact ⟨0, x, bad, rfl, Nat.zero_le _, hx1, by rw [drop_zero]; exact HX, by rw [drop_zero]; exact ⟨rfl⟩, HG, HB, ⟨KeepBut.refl _ _ _⟩⟩
    case round =>
      clear HX HG HB
      obtain ⟨i, x1, b1, rfl, hi, hx2, HX, HE, HG, HB, HK⟩ := hrel
      cases hd : l.drop i with
      | nil =>
        have h1 := drop_nil hd
        obtain rfl : i = l.len := by omega
        rw [hd] at HE
        clear hd
        go_wp2
        go_end0
        exact ⟨rfl, by rw [HE.out]; exact HG.out, HB.out, HK.out⟩
      | cons k t p a b r =>
        obtain ⟨h1, h2, _⟩ := drop_step hd
        obtain ⟨ad, A2, c2, A3, c3, A4, c4, rfl, y0, y1, y2, y3, y4, i2, l2, R3, R4⟩ := HR.out.at hd
        replace y0 := (HB.out.cell (World.block_lt_of_cell? _ _ y0)).trans y0
        replace y1 := (HB.out.cell (World.block_lt_of_cell? _ _ y1)).trans y1
        replace y2 := (HB.out.cell (World.block_lt_of_cell? _ _ y2)).trans y2
        replace y3 := (HB.out.cell (World.block_lt_of_cell? _ _ y3)).trans y3
        replace y4 := (HB.out.cell (World.block_lt_of_cell? _ _ y4)).trans y4
        obtain ⟨s1, s2, s3, s4, s5, s6, s7, s8, s9⟩ : (cons k t p a b r).sm := hd ▸ sm_drop HS.out i
        have HE' : inP l lv (x, bad) = inP (cons k t p a b r) lv (x1, b1) := hd ▸ HE.out
        have hX : -1000000000 < x1 := by have h := HX.out; rw [hd] at h; simp only [cnt] at h; omega
        have HD := Aside0.mk hd
        clear hd HE
        obtain ⟨z0, z1, f0, f1⟩ := cells_2 HG.out
        have hgl : g < wr.heap.size := blk_lt HG.out
        by_cases cA : b1 = true ∨ lv = 0 ∨ x1 - 1 < 0
        · have e1 : inP (cons k t p a b r) lv (x1, b1) = (x1 - 1, true) := by
            conv => lhs; unfold inP
            rw [if_pos]; simp only [Bool.or_eq_true, beq_iff_eq, decide_eq_true_eq]; rcases cA with h | h | h <;> simp [h]
          rw [e1] at HE'
          clear e1
          have e2 : (x1 - 1, true) = inP l lv (x, bad) := HE'.symm
          rcases cA with rfl | rfl | hx
          · go_wp2
            refine bodyPost_ret (results_none rfl _ _ _) rfl ?_
            rw [← e2]
            exact ⟨rfl, blk_alloc (blk_put (blk_put HG.out 0 _ rfl) 1 _ rfl) _, below_alloc (below_set (below_set HB.out hg0) hg0) _, keep_alloc ((HK.out.set_ _ _).set_ _ _) _⟩
          · have hb : b1 = true ∨ b1 = false := by cases b1 <;> simp
            rcases hb with rfl | rfl
            all_goals
              go_wp2
              refine bodyPost_ret (results_none rfl _ _ _) rfl ?_
              rw [← e2]
              exact ⟨rfl, blk_alloc (blk_put (blk_put HG.out 0 _ rfl) 1 _ rfl) _, below_alloc (below_set (below_set HB.out hg0) hg0) _, keep_alloc ((HK.out.set_ _ _).set_ _ _) _⟩
          · have hb : b1 = true ∨ b1 = false := by cases b1 <;> simp
            have hl : ((lv : Int) == 0) = true ∨ ((lv : Int) == 0) = false := by cases ((lv : Int) == 0) <;> simp
            rcases hb with rfl | rfl
            · go_wp2
              refine bodyPost_ret (results_none rfl _ _ _) rfl ?_
              rw [← e2]
              exact ⟨rfl, blk_alloc (blk_put (blk_put HG.out 0 _ rfl) 1 _ rfl) _, below_alloc (below_set (below_set HB.out hg0) hg0) _, keep_alloc ((HK.out.set_ _ _).set_ _ _) _⟩
            · rcases hl with hl | hl
              all_goals
                go_wp2
                refine bodyPost_ret (results_none rfl _ _ _) rfl ?_
                rw [← e2]
                exact ⟨rfl, blk_alloc (blk_put (blk_put HG.out 0 _ rfl) 1 _ rfl) _, below_alloc (below_set (below_set HB.out hg0) hg0) _, keep_alloc ((HK.out.set_ _ _).set_ _ _) _⟩
        · simp only [not_or, Bool.not_eq_true] at cA
          obtain ⟨rfl, hlv0, hxx⟩ := cA
          have hl : ((lv : Int) == 0) = false := by rw [beq_eq_false_iff_ne]; omega
          have hx3 : 0 ≤ x1 - 1 := by omega
          go_wp2_with fail
          have HB1 := Aside0.mk (below_alloc (below_set (j := 0) (v := .int .i64 (x1 - 1)) HB.out hg0) (.cells #[.int .u8 k, .string (bs t), .slice A2 p.length c2, .slice A3 a.len c3, .slice A4 b.len c4] 37))
          have HG1 := Aside0.mk (blk_alloc (blk_put HG.out 0 (.int .i64 (x1 - 1)) rfl) (.cells #[.int .u8 k, .string (bs t), .slice A2 p.length c2, .slice A3 a.len c3, .slice A4 b.len c4] 37))
          have HN1 := Aside0.mk (blk_new (wr.setCell ⟨g, 0, none⟩ (.int .i64 (x1 - 1))) (.cells #[.int .u8 k, .string (bs t), .slice A2 p.length c2, .slice A3 a.len c3, .slice A4 b.len c4] 37))
          rw [World.size_setCell] at HN1
          generalize hW : (wr.setCell ⟨g, 0, none⟩ (.int .i64 (x1 - 1))).alloc (.cells #[.int .u8 k, .string (bs t), .slice A2 p.length c2, .slice A3 a.len c3, .slice A4 b.len c4] 37) = W at HB1 HG1 HN1 ⊢
          have cl := (tree_leaf.calls k (bs t) A2 c2 (p.map bs) A3 c3 a.of A4 c4 b.of _ W (by rw [List.length_map]; exact Kd.C_below i2 HB1.out) (by rw [List.length_map]; exact l2) (by rw [of_len]; exact Kd.C_below R3.1 HB1.out) (by rw [of_len]; exact R3.2) (by rw [of_len]; exact Kd.C_below R4.1 HB1.out) (by rw [of_len]; exact R4.2) (leaf_any k t p a b s3 s5 s6))
          simp only [List.length_map, of_len] at cl
          refine cl.mono ?_
          rintro e w1 ⟨rfl, hb1⟩
          clear cl
          replace HG1 := Aside0.mk (blk_below HG1.out hb1)
          replace HN1 := Aside0.mk (blk_below HN1.out hb1)
          replace HB1 := Aside0.mk (below_step HB1.out hb1)
          have HK1 := Aside0.mk (HK.out.trans (keep_alloc ((KeepBut.refl wr g none).set_ 0 (.int .i64 (x1 - 1))) (.cells #[.int .u8 k, .string (bs t), .slice A2 p.length c2, .slice A3 a.len c3, .slice A4 b.len c4] 37)) (.inl rfl))
          rw [hW] at HK1
          replace HK1 := Aside0.mk (HK1.out.trans (KeepBut.of_below hb1 g none) (.inl rfl))
          have hne : wr.heap.size ≠ g := by omega
          clear hb1 hW z0 z1 f0 f1
          obtain ⟨z0, z1, f0, f1⟩ := cells_2 HG1.out
          obtain ⟨m0, m1, m2, m3, m4, n0, n1, n2, n3, n4⟩ := cells_5 HN1.out
          have hgl1 : g < w1.heap.size := blk_lt HG1.out
          cases hlf : leafP k t p.length a.len b.len with
          | false =>
            have e2 : (x1 - 1, true) = inP l lv (x, bad) := by
              rw [HE']; conv => rhs; unfold inP
              rw [if_pos]; simp [hlf]
            go_wp2
            refine bodyPost_ret (results_none rfl _ _ _) rfl ?_
            rw [← e2]
            exact ⟨rfl, blk_put HG1.out 1 _ rfl, below_set HB1.out hg0, HK1.out.set_ _ _⟩
          | true =>
            have e2 : inP l lv (x, bad) = inP r lv (inP b (lv - 1) (inP a (lv - 1) (x1 - 1, false))) := by
              rw [HE']; conv => lhs; unfold inP
              rw [if_neg]; simp [hlf, hlv0]; omega
            have hlv1 : (lv : Int) - 1 = ((lv - 1 : Nat) : Int) := by omega
            have hcnt : a.cnt + b.cnt + r.cnt + 1 ≤ (l.drop i).cnt := by rw [HD.out]; simp only [cnt]; omega
            have hcl := cnt_drop l i
            have hm := HM.out
            have hxl := HX.out
            have hle1 := inP_le a (lv - 1) (x1 - 1, false)
            have hle2 := inP_le b (lv - 1) (inP a (lv - 1) (x1 - 1, false))
            simp only at hle1
            go_wp2_with fail
            refine (ih a A3 c3 (lv - 1) (x1 - 1) false _ (by omega) s7 R3 s5 (by omega) (by omega) (by omega) (below_set HB1.out hg0) (blk_put HG1.out 1 _ rfl)).mono ?_
            rintro e w2 ⟨rfl, hg2, hb2, hk2⟩
            have HN2 := hk2.blk (blk_far HN1.out (p := ⟨g, 1, none⟩) hne (.bool false)) hne (by simp)
            have HK2 := Aside0.mk ((HK1.out.set_ 1 (.bool false)).trans hk2 (.inl rfl))
            have HB2 := Aside0.mk hb2
            have HG2 := Aside0.mk hg2
            clear z0 z1 f0 f1 m0 m1 m2 m3 m4 n0 n1 n2 n3 n4 hg2 hb2 hk2 HG1 HB1 HK1 hgl1
            obtain ⟨z0, z1, f0, f1⟩ := cells_2 HG2.out
            obtain ⟨m0, m1, m2, m3, m4, n0, n1, n2, n3, n4⟩ := cells_5 HN2
            go_wp2_with fail
            refine (ih b A4 c4 (lv - 1) _ _ _ (by omega) s8 R4 s6 (by omega) (by omega) (by omega) HB2.out HG2.out).mono ?_
            rintro e w3 ⟨rfl, hg3, hb3, hk3⟩
            have HK3 := Aside0.mk (HK2.out.trans hk3 (.inl rfl))
            clear z0 z1 f0 f1 m0 m1 m2 m3 m4 n0 n1 n2 n3 n4 hk3
            have HB3 := Aside0.mk hb3
            have HG3 := Aside0.mk hg3
            clear hb3 hg3
            go_wp2
            go_roundw
            case rel => exact ⟨i + 1, (inP b (lv - 1) (inP a (lv - 1) (x1 - 1, false))).1, (inP b (lv - 1) (inP a (lv - 1) (x1 - 1, false))).2, by simp, by omega, by omega, ⟨by rw [h2]; omega⟩, ⟨by rw [e2, h2]⟩, HG3, HB3, HK3⟩
            case measure => simp [intOf]; omega
theorem fits_any (l : Nodes) (A : Option Addr) (c : Nat) (w : World) (hs : l.sm) (hR : Rd w A c l) (hl : l.len ≤ 1048576) (hc : l.cnt ≤ 1048576) :
    Calls Tryz.prog 91 #[.slice A l.len c] w fun e w' => e = .returned (.bool l.fitsP) ∧ Below w.heap.size w w' := by
  have HR := Aside0.mk hR
  have HS := Aside0.mk hs
  clear hR hs
  go_enter Tryz.func91, Tryz.ntmps91
  go_wp2_with fail
  have HB1 := Aside0.mk (below_alloc (Below.refl w.heap.size w) (.cells #[.int .i64 256, .bool false] 193))
  have HG1 := Aside0.mk (blk_new w (.cells #[.int .i64 256, .bool false] 193))
  refine (in_any w w.heap.size (Nat.le_refl _) l.cnt l A c 8 256 false _ (Nat.le_refl _) HS.out HR.out hl (by omega) (by omega) (by omega) HB1.out HG1.out).mono ?_
  rintro e w1 ⟨rfl, hg, hb, _⟩
  clear HB1 HG1
  obtain ⟨z0, z1, f0, f1⟩ := cells_2 hg
  rw [inP_fits] at z1
  go_wp2
  go_ret
  exact ⟨by simp, hb⟩
end Go.Proofs.YtniibpndgcndbaaGreatDoor.Tpl
namespace Go.Proofs.YtniibpndgcndbaaGreatDoor.Tpl
set_option linter.unusedSimpArgs false
open Go.RowKit Go.Proofs.YtniibpndgcndbaaGreatDoor.PB Go.Proofs.YtniibpndgcndbaaGreatDoor.Short Go.Proofs.YtniibpndgcndbaaGreatDoorW.PrintWords Go.Proofs.YtniibpndgcndbaaGreatDoorW.PrintLast Go.Proofs.YtniibpndgcndbaaGreatDoorW.PrintMore Nodes
theorem len_cnt (l : Nodes) : l.len ≤ l.cnt := by
  induction l with
  | nil => simp [len]
  | cons k t p a b r _ _ ihr => simp only [len, cnt]; omega
end Go.Proofs.YtniibpndgcndbaaGreatDoor.Tpl
namespace Go.Proofs.YtniibpndgcndbaaGreatDoor.Tpl
open Vals
structure Val where
  k : Nat
  t : S
  n : Int
  i : Vals
  m : List S
def Val.one (v : Val) : Vals := Vals.cons v.k v.t v.n v.i v.m Vals.nil
def Val.zero : Val := ⟨0, [], 0, Vals.nil, []⟩
def chkV (k : Nat) (t : S) (n : Int) (i : Vals) (m : List S) : Bool := fitsV (cons k t n i m Vals.nil)
def Val.ok (v : Val) : Bool := chkV v.k v.t v.n v.i v.m
def Val.sm (v : Val) : Prop := v.one.sm
def Vals.nth : Vals → Nat → Option Val
  | Vals.nil, _ => none
  | Vals.cons k t n i m _, 0 => some ⟨k, t, n, i, m⟩
  | Vals.cons _ _ _ _ _ r, j + 1 => r.nth j
def posS (m : List S) (s : S) : Nat := m.findIdx (· == s)
def findV : Val → List S → Option Val
  | v, [] => some v
  | v, s :: r => if v.m.contains s = true then (match v.i.nth (posS v.m s) with
    | some x => findV x r
    | none => none) else none
def optE (o : Option Val) : Except Int Val := match o with | some x => .ok x | none => .error 3
def FindP (v : Val) (path : List S) : Except Int Val := if v.ok = true then optE (findV v path) else .error 2
def upP (s : S) (r : List S) : List Val → Except Int Val
  | [] => .error 3
  | x :: q => match FindP x [s] with
    | .ok y => FindP y r
    | .error _ => upP s r q
def meansP (path : List S) (rd : List Val) : Except Int Val := match path with
  | [] => .error 3
  | s :: r => if s = thisS then (match rd with
      | x :: _ :: _ => FindP x r
      | _ => .error 3) else upP s r rd
def holdsV (k : Nat) (t : S) (n : Int) (i : Vals) (m : List S) : Bool := chkV k t n i m && (!t.isEmpty || n != 0 || decide (0 < i.len))
def holdsP (v : Val) : Bool := holdsV v.k v.t v.n v.i v.m
def yesS : S := [121, 101, 115]
def noS : S := [110, 111]
def showV (k : Nat) (t : S) (n : Int) (il : Nat) : S := if k = 1 then t else if k = 3 then (if n = 1 then yesS else noS) else if k = 2 then Lib.itoa n else Lib.itoa (il : Int)
def showP (v : Val) : S := if v.ok = true then showV v.k v.t v.n v.i.len else []
theorem Vals.nth_drop (l : Vals) : ∀ {j k t n i m r}, l.drop j = cons k t n i m r → l.nth j = some ⟨k, t, n, i, m⟩ := by
  induction l with
  | nil => intro j k t n i m r h; cases j <;> simp [Vals.drop] at h
  | cons k' t' n' i' m' r' _ ih =>
    intro j k t n i m r h
    cases j with
    | zero => simp only [Vals.drop, Vals.cons.injEq] at h; obtain ⟨rfl, rfl, rfl, rfl, rfl, rfl⟩ := h; rfl
    | succ j => exact ih h
theorem Vals.nth_some (l : Vals) : ∀ {j : Nat}, j < l.len → ∃ x r, l.nth j = some x ∧ l.drop j = cons x.k x.t x.n x.i x.m r := by
  induction l with
  | nil => intro j h; simp [Vals.len] at h
  | cons k' t' n' i' m' r' _ ih =>
    intro j h
    cases j with
    | zero => exact ⟨_, r', rfl, rfl⟩
    | succ j => exact ih (by simp [Vals.len] at h; omega)
theorem okV_nth (l : Vals) : ∀ {lv j x}, okV l lv = true → l.nth j = some x → lv ≠ 0 ∧ leafV x.k x.t x.n x.i.len x.m = true ∧ okV x.i (lv - 1) = true ∧ x.i.cnt + 1 ≤ l.cnt := by
  induction l with
  | nil => intro lv j x _ h; cases j <;> simp [Vals.nth] at h
  | cons k t n i m r _ ih =>
    intro lv j x h hx
    simp only [okV, Bool.and_eq_true, bne_iff_ne] at h
    obtain ⟨⟨⟨h1, h2⟩, h3⟩, h4⟩ := h
    cases j with
    | zero => simp only [Vals.nth, Option.some.injEq] at hx; subst hx; exact ⟨h1, h2, h3, by simp only [Vals.cnt]; omega⟩
    | succ j => obtain ⟨a, b, c, d⟩ := ih h4 hx; exact ⟨a, b, c, by simp only [Vals.cnt]; omega⟩
theorem okV_mono (l : Vals) : ∀ {a b : Nat}, a ≤ b → okV l a = true → okV l b = true := by
  induction l with
  | nil => intros; rfl
  | cons k t n i m r ihi ihr =>
    intro a b hab h
    simp only [okV, Bool.and_eq_true, bne_iff_ne] at h ⊢
    obtain ⟨⟨⟨h1, h2⟩, h3⟩, h4⟩ := h
    exact ⟨⟨⟨by omega, h2⟩, ihi (by omega) h3⟩, ihr hab h4⟩
theorem chkV_iff (k : Nat) (t : S) (n : Int) (i : Vals) (m : List S) : chkV k t n i m = true ↔ leafV k t n i.len m = true ∧ okV i 7 = true ∧ i.cnt ≤ 255 := by
  unfold chkV fitsV
  rw [Bool.and_eq_true, decide_eq_true_eq]
  simp only [okV, Vals.cnt, Bool.and_eq_true, and_true]
  constructor
  · rintro ⟨⟨⟨_, h2⟩, h3⟩, h4⟩; exact ⟨h2, h3, by omega⟩
  · rintro ⟨h2, h3, h4⟩; exact ⟨⟨⟨by decide, h2⟩, h3⟩, by omega⟩
theorem ok_nth {v x : Val} {j : Nat} (h : v.ok = true) (hx : v.i.nth j = some x) : x.ok = true := by
  obtain ⟨h1, h2, h3⟩ := (chkV_iff _ _ _ _ _).1 h
  obtain ⟨a, b, c, d⟩ := okV_nth v.i h2 hx
  exact (chkV_iff _ _ _ _ _).2 ⟨b, okV_mono _ (by omega) c, by omega⟩
theorem sm_nth (l : Vals) : ∀ {j x}, l.sm → l.nth j = some x → x.sm := by
  induction l with
  | nil => intro j x _ h; cases j <;> simp [Vals.nth] at h
  | cons k t n i m r _ ih =>
    intro j x h hx
    obtain ⟨h1, h2, h3, h4, h5, h6, h7, h8⟩ := h
    cases j with
    | zero => simp only [Vals.nth, Option.some.injEq] at hx; subst hx; exact ⟨h1, h2, h3, h4, h5, h6, h7, trivial⟩
    | succ j => exact ih h8 hx
theorem find_ok : ∀ (p : List S) {v x : Val}, v.ok = true → v.sm → findV v p = some x → x.ok = true ∧ x.sm := by
  intro p
  induction p with
  | nil => intro v x h hs e; simp only [findV, Option.some.injEq] at e; subst e; exact ⟨h, hs⟩
  | cons s r ih =>
    intro v x h hs e
    unfold findV at e
    split at e
    · cases hn : v.i.nth (posS v.m s) with
      | none => rw [hn] at e; cases e
      | some y =>
        rw [hn] at e
        exact ih (ok_nth h hn) (sm_nth v.i hs.2.2.2.2.2.2.1 hn) e
    · cases e
theorem FindP_ok {v x : Val} {p : List S} (hs : v.sm) (h : FindP v p = .ok x) : x.ok = true ∧ x.sm := by
  unfold FindP optE at h
  split at h
  · rename_i hv
    cases hf : findV v p with
    | none => rw [hf] at h; cases h
    | some y => rw [hf] at h; cases h; exact find_ok p hv hs hf
  · cases h
theorem FindP_err {v : Val} {p : List S} {e : Int} (h : FindP v p = .error e) : e = 3 ∨ e = 2 := by
  unfold FindP optE at h
  split at h
  · cases hf : findV v p with
    | none => rw [hf] at h; cases h; exact .inl rfl
    | some y => rw [hf] at h; cases h
  · cases h; exact .inr rfl
theorem upP_ok (s : S) (r : List S) : ∀ (rd : List Val) {x : Val}, (∀ v, v ∈ rd → v.sm) → upP s r rd = .ok x → x.ok = true ∧ x.sm := by
  intro rd
  induction rd with
  | nil => intro x _ h; cases h
  | cons v q ih =>
    intro x hs h
    unfold upP at h
    cases hf : FindP v [s] with
    | error e => rw [hf] at h; exact ih (fun v hv => hs v (List.mem_cons_of_mem _ hv)) h
    | ok y => rw [hf] at h; exact FindP_ok (FindP_ok (hs v List.mem_cons_self) hf).2 h
theorem upP_err (s : S) (r : List S) : ∀ (rd : List Val) {e : Int}, upP s r rd = .error e → e = 3 ∨ e = 2 := by
  intro rd
  induction rd with
  | nil => intro e h; cases h; exact .inl rfl
  | cons v q ih =>
    intro e h
    unfold upP at h
    cases hf : FindP v [s] with
    | error e => rw [hf] at h; exact ih h
    | ok y => rw [hf] at h; exact FindP_err h
theorem means_ok {p : List S} {rd : List Val} {x : Val} (hs : ∀ v, v ∈ rd → v.sm) (h : meansP p rd = .ok x) : x.ok = true ∧ x.sm := by
  unfold meansP at h
  split at h
  · cases h
  · split at h
    · split at h
      · rename_i v _ _; exact FindP_ok (hs v List.mem_cons_self) h
      · cases h
    · exact upP_ok _ _ _ hs h
theorem means_err {p : List S} {rd : List Val} {e : Int} (h : meansP p rd = .error e) : e = 3 ∨ e = 2 := by
  unfold meansP at h
  split at h
  · cases h; exact .inl rfl
  · split at h
    · split at h
      · exact FindP_err h
      · cases h; exact .inl rfl
    · exact upP_err _ _ _ h
theorem meansP_one (p : List S) (x : Val) : meansP (thisS :: p) [x] = .error 3 := by unfold meansP; simp
theorem meansP_this (p : List S) (x y : Val) (r : List Val) : meansP (thisS :: p) (x :: y :: r) = FindP x p := by unfold meansP; simp
theorem meansP_up {s : S} (h : s ≠ thisS) (p : List S) (rd : List Val) : meansP (s :: p) rd = upP s p rd := by unfold meansP; simp [h]
end Go.Proofs.YtniibpndgcndbaaGreatDoor.Tpl
namespace Go.Proofs.YtniibpndgcndbaaGreatDoor.PB
open Go.RowKit Go.Proofs.YtniibpndgcndbaaGreatDoorW.PrintWords Go.Proofs.YtniibpndgcndbaaGreatDoorW.PrintLast Go.Proofs.YtniibpndgcndbaaGreatDoorW.PrintMore Go.Proofs.YtniibpndgcndbaaGreatDoor.Short
attribute [local go_sem] max2_int min2_int max_two min_two max_three min_three max_four min_four   -- for this text's walks alone
set_option linter.unusedVariables false
set_option linter.unusedSimpArgs false
def esc_Most.f (a0 : Int) : Option (Int × Int) := if a0 = 1 then (some (256, 0)) else (if a0 = 2 then (some (2048, 0)) else (if a0 = 3 then (some (160, 0)) else (some (0, 1))))
set_option maxHeartbeats 8000000 in
set_option maxRecDepth 100000 in
theorem esc_Most.calls (a0 : Int) (r1 : Int) (r2 : Int) (w : World) (h : esc_Most.f a0 = some (r1, r2)) :
  Calls Tryz.prog 35 #[.int .u8 a0] w fun e w' => e = .returned (.tuple #[.int .i64 r1, .int .i64 r2]) ∧ Drawn0 w w' := by
 have H : (if a0 = 1 then (some (256, 0)) else (if a0 = 2 then (some (2048, 0)) else (if a0 = 3 then (some (160, 0)) else (some (0, 1))))) = some (r1, r2) := h
 clear h
 by_cases c2 : a0 = 1
 ·rw [if_pos c2] at H
  have c2b0 : (a0 == 1) = true := beq_iff_eq.mpr c2
  have c2b1 : (a0 != 1) = false := bne_eq_false_iff_eq.mpr c2
  clear c2
  simp only [Option.some.injEq, Prod.mk.injEq] at H
  obtain ⟨rfl, rfl⟩ := H
  go_enter Tryz.func35, Tryz.ntmps35
  go_wp2
  go_ret2
  exact ⟨by first | rfl | (simp; done) | (simp [*]; done), by repeat (first | exact Drawn0.refl _ | apply Drawn0.step)⟩
 ·rw [if_neg c2] at H
  have c2b0 : (a0 == 1) = false := beq_eq_false_iff_ne.mpr c2
  have c2b1 : (a0 != 1) = true := bne_iff_ne.mpr c2
  by_cases c3 : a0 = 2
  ·rw [if_pos c3] at H
   have c3b0 : (a0 == 2) = true := beq_iff_eq.mpr c3
   have c3b1 : (a0 != 2) = false := bne_eq_false_iff_eq.mpr c3
   clear c3
   simp only [Option.some.injEq, Prod.mk.injEq] at H
   obtain ⟨rfl, rfl⟩ := H
   go_enter Tryz.func35, Tryz.ntmps35
   go_wp2
   go_ret2
   exact ⟨by first | rfl | (simp; done) | (simp [*]; done), by repeat (first | exact Drawn0.refl _ | apply Drawn0.step)⟩
  ·rw [if_neg c3] at H
   have c3b0 : (a0 == 2) = false := beq_eq_false_iff_ne.mpr c3
   have c3b1 : (a0 != 2) = true := bne_iff_ne.mpr c3
   by_cases c4 : a0 = 3
   ·rw [if_pos c4] at H
    have c4b0 : (a0 == 3) = true := beq_iff_eq.mpr c4
    have c4b1 : (a0 != 3) = false := bne_eq_false_iff_eq.mpr c4
    clear c4
    simp only [Option.some.injEq, Prod.mk.injEq] at H
    obtain ⟨rfl, rfl⟩ := H
    go_enter Tryz.func35, Tryz.ntmps35
    go_wp2
    go_ret2
    exact ⟨by first | rfl | (simp; done) | (simp [*]; done), by repeat (first | exact Drawn0.refl _ | apply Drawn0.step)⟩
   ·rw [if_neg c4] at H
    have c4b0 : (a0 == 3) = false := beq_eq_false_iff_ne.mpr c4
    have c4b1 : (a0 != 3) = true := bne_iff_ne.mpr c4
    simp only [Option.some.injEq, Prod.mk.injEq] at H
    obtain ⟨rfl, rfl⟩ := H
    go_enter Tryz.func35, Tryz.ntmps35
    go_wp2
    go_ret2
    exact ⟨by first | rfl | (simp; done) | (simp [*]; done), by repeat (first | exact Drawn0.refl _ | apply Drawn0.step)⟩
end Go.Proofs.YtniibpndgcndbaaGreatDoor.PB
namespace Go.Proofs.YtniibpndgcndbaaGreatDoor.Tpl
open Vals Nodes
abbrev Pen := S × Int
def addP (most : Int) (st : Pen) (s : S) : Except Int Pen := if (s.length : Int) > most - st.1.length then .error 12 else .ok (st.1 ++ s, st.2)
def thenE (x : Except Int Pen) (f : Pen → Except Int Pen) : Except Int Pen := match x with | .ok st' => f st' | .error e => .error e
def eachP (f : Val → Pen → Except Int Pen) : Vals → Pen → Except Int Pen
  | Vals.nil, st => .ok st
  | Vals.cons k t n i m r, st => thenE (f ⟨k, t, n, i, m⟩ st) (eachP f r)
def fillP (E F : S → S) (most : Int) : Nodes → List Val → Pen → Except Int Pen
  | Nodes.nil, _, st => .ok st
  | Nodes.cons k t p a b r, rd, st =>
    thenE (if st.2 - 1 < 0 then .error 12
      else if k = 1 then addP most (st.1, st.2 - 1) (E t)
      else match meansP p rd with
        | .ok v => if k = 3 then (if holdsP v = true then fillP E F most a rd (st.1, st.2 - 1) else fillP E F most b rd (st.1, st.2 - 1))
          else if k = 5 then (if v.k = 4 then eachP (fun x st => fillP E F most a (x :: rd) st) v.i (st.1, st.2 - 1) else .error 7)
          else addP most (st.1, st.2 - 1) (F (showP v))
        | .error e => if k = 3 then fillP E F most b rd (st.1, st.2 - 1) else .error e) (fillP E F most r rd)
def oneP (E F : S → S) (most : Int) (k : Nat) (t : S) (p : List S) (a b : Nodes) (rd : List Val) (st : Pen) : Except Int Pen :=
  if st.2 - 1 < 0 then .error 12
  else if k = 1 then addP most (st.1, st.2 - 1) (E t)
  else match meansP p rd with
    | .ok v => if k = 3 then (if holdsP v = true then fillP E F most a rd (st.1, st.2 - 1) else fillP E F most b rd (st.1, st.2 - 1))
      else if k = 5 then (if v.k = 4 then eachP (fun x st => fillP E F most a (x :: rd) st) v.i (st.1, st.2 - 1) else .error 7)
      else addP most (st.1, st.2 - 1) (F (showP v))
    | .error e => if k = 3 then fillP E F most b rd (st.1, st.2 - 1) else .error e
theorem fillP_cons (E F : S → S) (most : Int) (k : Nat) (t : S) (p : List S) (a b r : Nodes) (rd : List Val) (st : Pen) :
    fillP E F most (Nodes.cons k t p a b r) rd st = thenE (oneP E F most k t p a b rd st) (fillP E F most r rd) := by
  rw [fillP]; rfl
def Both (s : S) (x y : Except Int Pen) : Prop := y = .error 12 ∨ match x with
  | .error e => y = .error e
  | .ok p => ∃ k, y = .ok (s ++ p.1, k) ∧ k ≤ p.2
theorem Both.bind {s : S} {x y : Except Int Pen} {f : Pen → Except Int Pen} (h : Both s x y) (hf : ∀ p k, k ≤ p.2 → Both s (f p) (f (s ++ p.1, k))) :
    Both s (thenE x f) (thenE y f) := by
  rcases h with h | h
  · subst h; exact .inl rfl
  · cases x with
    | error e => simp only at h; subst h; exact .inr rfl
    | ok p => obtain ⟨k, rfl, hk⟩ := h; exact hf p k hk
theorem eachP_keeps {P : Pen → Prop} {f : Val → Pen → Except Int Pen} (hf : ∀ v p q, P p → f v p = .ok q → P q) (l : Vals) : ∀ p q, P p → eachP f l p = .ok q → P q := by
  induction l with
  | nil => intro p q hp h; cases h; exact hp
  | cons a t n i m r _ ih =>
    intro p q hp h
    rw [eachP] at h
    cases hx : f ⟨a, t, n, i, m⟩ p with
    | error e => rw [hx] at h; cases h
    | ok p' => rw [hx] at h; exact ih p' q (hf _ _ _ hp hx) h
theorem fillP_err {E F : S → S} {most : Int} (l : Nodes) : ∀ (rd : List Val) (p : Pen) (e : Int), fillP E F most l rd p = .error e → e = 12 ∨ e = 3 ∨ e = 2 ∨ e = 7 := by
  have hadd : ∀ {p : Pen} {s : S} {e : Int}, addP most p s = .error e → e = 12 := by
    intro p s e h; unfold addP at h; split at h
    · cases h; rfl
    · cases h
  have heach : ∀ {f : Val → Pen → Except Int Pen}, (∀ v p e, f v p = .error e → e = 12 ∨ e = 3 ∨ e = 2 ∨ e = 7) → ∀ (l : Vals) p e, eachP f l p = .error e → e = 12 ∨ e = 3 ∨ e = 2 ∨ e = 7 := by
    intro f hf l
    induction l with
    | nil => intro p e h; cases h
    | cons a t n i m r _ ih =>
      intro p e h
      rw [eachP] at h
      cases hx : f ⟨a, t, n, i, m⟩ p with
      | error e' => rw [hx] at h; cases h; exact hf _ _ _ hx
      | ok p' => rw [hx] at h; exact ih p' e h
  induction l with
  | nil => intro rd p e h; cases h
  | cons c t w a b r iha ihb ihr =>
    intro rd p e h
    rw [fillP_cons] at h
    cases ho : oneP E F most c t w a b rd p with
    | ok p' => rw [ho] at h; exact ihr rd p' e h
    | error e' =>
      rw [ho] at h
      cases h
      unfold oneP at ho
      split at ho
      · cases ho; exact .inl rfl
      split at ho
      · exact .inl (hadd ho)
      split at ho
      · split at ho
        · split at ho
          · exact iha rd _ _ ho
          · exact ihb rd _ _ ho
        · split at ho
          · split at ho
            · exact heach (fun v p e h => iha (v :: rd) p e h) _ _ _ ho
            · cases ho; exact .inr (.inr (.inr rfl))
          · exact .inl (hadd ho)
      · rename_i e2 hm
        split at ho
        · exact ihb rd _ _ ho
        · cases ho
          rcases means_err hm with h | h
          · exact .inr (.inl h)
          · exact .inr (.inr (.inl h))
end Go.Proofs.YtniibpndgcndbaaGreatDoor.Tpl
namespace Go.Proofs.YtniibpndgcndbaaGreatDoor.Tpl
open Vals Nodes
def mostC (c : Nat) : Int := if c = 1 then 256 else if c = 2 then 2048 else 160
def FillP (T : Nat → S → S) (l : Nodes) (v : Val) (c : Nat) : Except Int S :=
  if l.chk = true ∧ v.ok = true then
    (if 1 ≤ c ∧ c ≤ 3 then (match fillP (if c = 2 then id else T c) (T c) (mostC c) l [v] ([], 4096) with | .ok q => .ok q.1 | .error e => .error e) else .error 1)
  else .error 2
end Go.Proofs.YtniibpndgcndbaaGreatDoor.Tpl
