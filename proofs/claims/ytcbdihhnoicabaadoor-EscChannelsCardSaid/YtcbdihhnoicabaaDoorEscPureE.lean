/- The laws of esc, as statements over bytes, for arguments of at most 1048576 bytes (EscChannels: for all). -/
import Derived.Test.YtcbdihhnoicabaaDoorPEx0
import Derived.Test.YtcbdihhnoicabaaDoorPEx2
import Derived.Test.YtcbdihhnoicabaaDoorPEx3
import Derived.Test.YtcbdihhnoicabaaDoorPEx4
import Derived.Test.YtcbdihhnoicabaaDoorEscFacts
namespace Go.Proofs.YtcbdihhnoicabaaDoor.EscPureE
open Go.RowKit Go.Proofs.YtcbdihhnoicabaaDoor.PE Go.Proofs.YtcbdihhnoicabaaDoor.Esc Go.Proofs.YtcbdihhnoicabaaDoorW.PrintWords Go.Proofs.YtcbdihhnoicabaaDoorW.PrintLast
theorem lives_t : bellmanlaw13_lives.f = some true := by kernel_rfl
theorem wf8 {c : Int} (h : (Lit.int .u8 c).wf = true) : 0 ≤ c ∧ c ≤ 255 := by
  have h2 : (decide ((0 : Int) ≤ c) && decide (c ≤ (255 : Int))) = true := h
  simpa using h2
theorem app_eq (a b : List UInt8) : (⟨a.toArray⟩ : ByteArray) ++ ⟨b.toArray⟩ = ⟨(a ++ b).toArray⟩ := by
  apply str_eq; simp [ByteArray.data_append]
theorem data_app (s t : ByteArray) : (s ++ t).data.toList = s.data.toList ++ t.data.toList := by simp [ByteArray.data_append]
theorem to_ok {c : Int} (h0 : 0 ≤ c) (hc : 1 ≤ c ∧ c ≤ 3) {s : ByteArray} (hs : s.size ≤ 23456248059221) : esc_To.f c s = some (⟨(toL c s.data.toList).toArray⟩, 0) := by
  unfold esc_To.f; rw [if_pos h0, if_pos hc, if_pos hs]
theorem to_bad {c : Int} (h0 : 0 ≤ c) (hc : ¬ (1 ≤ c ∧ c ≤ 3)) (s : ByteArray) : esc_To.f c s = some (⟨#[]⟩, 1) := by
  unfold esc_To.f; rw [if_pos h0, if_neg hc]
theorem EscParts (c : Int) (s t : ByteArray) (hc : (Lit.int .u8 c).wf = true) (hs : s.size ≤ 1048576) (ht : t.size ≤ 1048576) : bellmanlaw13_EscParts.f c s t = some true := by
  have h0 := wf8 hc
  unfold bellmanlaw13_EscParts.f
  rw [lives_t]
  simp only [Option.bind_some, if_true]
  by_cases c3 : c = 3
  · rw [if_pos c3]
  rw [if_neg c3]
  have hst : (s ++ t).size = s.size + t.size := by simp
  by_cases hv : 1 ≤ c ∧ c ≤ 3
  · rw [to_ok h0.1 hv (by omega), to_ok h0.1 hv (s := t) (by omega), to_ok h0.1 hv (s := s ++ t) (by omega)]
    simp only [Option.bind_some, if_true]
    have l1 := toL_le c s.data.toList
    have l2 := toL_le c t.data.toList
    rw [if_pos (by omega), if_pos]
    · rw [data_app, app_eq, toL_flat c (by omega), toL_flat c (by omega), toL_flat c (by omega), List.flatMap_append]
      simp
    · show (toL c s.data.toList).toArray.size + (toL c t.data.toList).toArray.size ≤ _
      rw [List.size_toArray, List.size_toArray]
      have e1 := size_of (s := s) rfl
      have e2 := size_of (s := t) rfl
      omega
  · rw [to_bad h0.1 hv, to_bad h0.1 hv, to_bad h0.1 hv]
    have z : (⟨#[]⟩ : ByteArray) ++ ⟨#[]⟩ = ⟨#[]⟩ := app_eq [] []
    simp only [Option.bind_some, if_true, z]
    rw [if_pos (by omega), if_pos (by decide)]
    simp
theorem EscChannels : bellmanlaw13_EscChannels.Pure := by
  intro c s hc _
  have h0 := wf8 hc
  have hm : esc_Most.f c = bellmanref13_Most.f c := rfl
  have hn : esc_Name.f c = bellmanref13_Name.f c := by
    unfold esc_Name.f bellmanref13_Name.f
    rw [if_pos h0.1]
    by_cases c1 : c = 1
    · subst c1; rfl
    by_cases c2 : c = 2
    · subst c2; rfl
    by_cases c3 : c = 3
    · subst c3; rfl
    rw [if_neg (by omega), if_neg c1, if_neg c2, if_neg c3]
  have hd : esc_Named.f s = bellmanref13_Named.f s := by
    unfold esc_Named.f bellmanref13_Named.f namedI
    by_cases c1 : s.toList = nameL 1
    · rw [if_pos c1]; rw [if_pos (show s.toList = ([112, 117, 115, 104] : List UInt8) from c1)]
    rw [if_neg c1]; rw [if_neg (show ¬ s.toList = ([112, 117, 115, 104] : List UInt8) from c1)]
    by_cases c2 : s.toList = nameL 2
    · rw [if_pos c2]; rw [if_pos (show s.toList = ([101, 109, 97, 105, 108] : List UInt8) from c2)]
    rw [if_neg c2]; rw [if_neg (show ¬ s.toList = ([101, 109, 97, 105, 108] : List UInt8) from c2)]
    by_cases c3 : s.toList = nameL 3
    · rw [if_pos c3]; rw [if_pos (show s.toList = ([115, 109, 115] : List UInt8) from c3)]
    rw [if_neg c3]; rw [if_neg (show ¬ s.toList = ([115, 109, 115] : List UInt8) from c3)]
  unfold bellmanlaw13_EscChannels.f
  rw [lives_t, hm, hn, hd]
  obtain ⟨a, ha⟩ : ∃ a, bellmanref13_Most.f c = some a := by unfold bellmanref13_Most.f; repeat' split
                                                             all_goals exact ⟨_, rfl⟩
  obtain ⟨b, hb⟩ : ∃ b, bellmanref13_Name.f c = some b := by unfold bellmanref13_Name.f; repeat' split
                                                             all_goals exact ⟨_, rfl⟩
  obtain ⟨d, hd'⟩ : ∃ d, bellmanref13_Named.f s = some d := by unfold bellmanref13_Named.f; repeat' split
                                                               all_goals exact ⟨_, rfl⟩
  rw [ha, hb, hd']
  simp
end Go.Proofs.YtcbdihhnoicabaaDoor.EscPureE
