/- What Find and Empty give: plain laws. -/
import Derived.Test.YtpnkaoigpefmiaaR50
namespace Go.Proofs.Ytpnkaoigpefmiaa
set_option linter.unusedVariables false
set_option linter.unusedSimpArgs false

theorem find_kinds {r : Rb} {b : ByteArray} (h : (findOf r b).2.2 = true) : b ≠ E0 ∧ 1 ≤ cnt (allOf r) b ∧
    ((∃ j : Nat, findOf r b = (0, (j : Int), true) ∧ ∃ h : j < r.slots.length, r.slots[j] = b) ∨ (findOf r b = (2, 0, true) ∧ r.port = b) ∨ (findOf r b = (3, 0, true) ∧ r.hand = b)) := by
  by_cases hb : b.size = 0
  · rw [findOf, if_pos hb] at h; cases h
  · have hne : b ≠ E0 := fun e => hb (size_zero.2 e)
    refine ⟨hne, ?_⟩
    by_cases h1 : r.slots.findIdx (fun s => decide (s = b)) < r.slots.length
    · have e : findOf r b = (0, ((r.slots.findIdx (fun s => decide (s = b)) : Nat) : Int), true) := by rw [findOf, if_neg hb, if_pos h1]
      have e2 : r.slots[r.slots.findIdx (fun s => decide (s = b))] = b := of_decide_eq_true (List.findIdx_getElem (w := h1))
      refine ⟨cnt_mem ?_, .inl ⟨_, e, h1, e2⟩⟩
      unfold allOf
      exact List.mem_append.2 (.inl (by rw [← e2]; exact List.getElem_mem h1))
    · by_cases h2 : r.port = b
      · exact ⟨cnt_mem (by unfold allOf; rw [h2]; simp), .inr (.inl ⟨by rw [findOf, if_neg hb, if_neg h1, if_pos h2], h2⟩)⟩
      · by_cases h3 : r.hand = b
        · exact ⟨cnt_mem (by unfold allOf; rw [h3]; simp), .inr (.inr ⟨by rw [findOf, if_neg hb, if_neg h1, if_neg h2, if_pos h3], h3⟩)⟩
        · rw [findOf, if_neg hb, if_neg h1, if_neg h2, if_neg h3] at h; cases h
theorem find_not {r : Rb} {b : ByteArray} (h : (findOf r b).2.2 = false) : findOf r b = (0, 0, false) ∧ (b = E0 ∨ (b ≠ E0 ∧ cnt (allOf r) b = 0)) := by
  by_cases hb : b.size = 0
  · exact ⟨by rw [findOf, if_pos hb], .inl (size_zero.1 hb)⟩
  · have hne : b ≠ E0 := fun e => hb (size_zero.2 e)
    refine ⟨?_, .inr ⟨hne, find_cr hne h⟩⟩
    by_cases h1 : r.slots.findIdx (fun s => decide (s = b)) < r.slots.length
    · rw [findOf, if_neg hb, if_pos h1] at h; cases h
    · by_cases h2 : r.port = b
      · rw [findOf, if_neg hb, if_neg h1, if_pos h2] at h; cases h
      · by_cases h3 : r.hand = b
        · rw [findOf, if_neg hb, if_neg h1, if_neg h2, if_pos h3] at h; cases h
        · rw [findOf, if_neg hb, if_neg h1, if_neg h2, if_neg h3]
theorem cnt_zero {l : List ByteArray} {s : ByteArray} (h : s ∉ l) : cnt l s = 0 := by
  rcases Nat.eq_zero_or_pos (cnt l s) with e | e
  · exact e
  · exact absurd (mem_cnt e) h
theorem empty_kinds (ss : List ByteArray) : (emptyOf ss = (0, false) ∧ cnt ss E0 = 0) ∨ (∃ k : Nat, emptyOf ss = (k, true) ∧ ∃ h : k < ss.length, ss[k] = E0 ∧ cnt (ss.take k) E0 = 0) := by
  by_cases h : ss.findIdx (fun s => decide (s.size = 0)) < ss.length
  · refine .inr ⟨ss.findIdx (fun s => decide (s.size = 0)), by rw [emptyOf, if_pos h], h, size_zero.1 (of_decide_eq_true (List.findIdx_getElem (w := h))), cnt_zero fun hm => ?_⟩
    obtain ⟨j, hj, e⟩ := List.getElem_of_mem hm
    rw [List.length_take] at hj
    rw [List.getElem_take] at e
    have := List.not_of_lt_findIdx (show j < ss.findIdx (fun s => decide (s.size = 0)) by omega)
    rw [e] at this
    exact absurd this (by decide)
  · refine .inl ⟨by rw [emptyOf, if_neg h], cnt_zero fun hm => ?_⟩
    exact h (List.findIdx_lt_length_of_exists ⟨E0, hm, by decide⟩)
end Go.Proofs.Ytpnkaoigpefmiaa
