/- What the loops over the places find: plain laws. -/
import Derived.Test.YtpnkaoigpefmiaaR11
namespace Go.Proofs.Ytpnkaoigpefmiaa
open Go.RowKit
set_option linter.unusedVariables false
set_option linter.unusedSimpArgs false

theorem items_slot (r : Rb) {j : Nat} (h : j < r.slots.length) : (items r)[j]? = some (0, (j : Int), r.slots[j]) := by
  unfold items slotsTo
  rw [List.append_assoc, List.getElem?_append_left (by simpa using h)]
  simp [h]
theorem items_port (r : Rb) : (items r)[r.slots.length]? = some (2, 0, r.port) := by
  unfold items
  rw [List.append_assoc, List.getElem?_append_right (by rw [slotsTo_len]; omega), slotsTo_len, Nat.sub_self]; rfl
theorem items_hand (r : Rb) : (items r)[r.slots.length + 1]? = some (3, 0, r.hand) := by
  unfold items
  rw [List.append_assoc, List.getElem?_append_right (by rw [slotsTo_len]; omega), slotsTo_len, show r.slots.length + 1 - r.slots.length = 1 from by omega]; rfl
theorem items_len (r : Rb) : (items r).length = r.slots.length + 2 := by unfold items; simp [slotsTo_len]
theorem find_none {r : Rb} {b : ByteArray} (h : ∀ x ∈ items r, x.2.2 = b → b = E0) : findOf r b = (0, 0, false) := by
  by_cases hb : b.size = 0
  · rw [findOf, if_pos hb]
  · have hne : b ≠ E0 := fun e => hb (size_zero.2 e)
    have h1 : ∀ j (h : j < r.slots.length), r.slots[j] ≠ b := fun j hj e => hne (h _ (List.mem_of_getElem? (items_slot r hj)) e)
    have h2 : r.port ≠ b := fun e => hne (h _ (List.mem_of_getElem? (items_port r)) e)
    have h3 : r.hand ≠ b := fun e => hne (h _ (List.mem_of_getElem? (items_hand r)) e)
    rw [findOf, if_neg hb, if_neg (findIdx_none h1), if_neg h2, if_neg h3]
theorem find_at {r : Rb} {b : ByteArray} {q : List It} {x : It} (hp : q ++ [x] <+: items r) (h : ∀ y ∈ q, y.2.2 = b → b = E0) (hx : x.2.2 = b) (hne : b ≠ E0) : findOf r b = (x.1, x.2.1, true) := by
  have hb : ¬ b.size = 0 := fun e => hne (size_zero.1 e)
  obtain ⟨t, ht⟩ := hp
  have hl := congrArg List.length ht
  rw [items_len] at hl
  simp only [List.length_append, List.length_singleton] at hl
  have hget : (items r)[q.length]? = some x := by rw [← ht]; simp
  have hq : ∀ j, j < q.length → ∀ y, (items r)[j]? = some y → y.2.2 ≠ b := fun j hj y hy e => by
    rw [← ht, List.append_assoc, List.getElem?_append_left hj] at hy
    exact hne (h y (List.mem_of_getElem? hy) e)
  by_cases h1 : q.length < r.slots.length
  · rw [items_slot r h1] at hget
    injection hget with hget
    subst hget
    have hfi := findIdx_at h1 (fun j hj hj2 => hq j hj _ (items_slot r hj2)) hx
    rw [findOf, if_neg hb, hfi, if_pos h1]
  · have hs : ∀ j (h : j < r.slots.length), r.slots[j] ≠ b := fun j hj => hq j (by omega) _ (items_slot r hj)
    by_cases h2 : q.length = r.slots.length
    · rw [h2, items_port] at hget
      injection hget with hget
      subst hget
      rw [findOf, if_neg hb, if_neg (findIdx_none hs), if_pos hx]
    · have h3 : q.length = r.slots.length + 1 := by omega
      have hpo := hq r.slots.length (by omega) _ (items_port r)
      rw [h3, items_hand] at hget
      injection hget with hget
      subst hget
      rw [findOf, if_neg hb, if_neg (findIdx_none hs), if_neg hpo, if_pos hx]
/-- No barcode twice, said of the places. -/
theorem once_items {r : Rb} : once (allOf r) ↔ ∀ q x, q ++ [x] <+: items r → x.2.2 ≠ E0 → ∀ y ∈ q, y.2.2 ≠ x.2.2 := by
  have hall : (items r).map (fun x => x.2.2) = allOf r := by
    apply List.ext_getElem?
    intro j
    rw [List.getElem?_map]
    unfold allOf
    by_cases h1 : j < r.slots.length
    · rw [items_slot r h1, List.getElem?_append_left h1]; simp [h1]
    · rw [List.getElem?_append_right (by omega)]
      by_cases h2 : j = r.slots.length
      · subst h2; rw [items_port]; simp
      · by_cases h3 : j = r.slots.length + 1
        · subst h3; rw [items_hand, show r.slots.length + 1 - r.slots.length = 1 from by omega]; rfl
        · rw [List.getElem?_eq_none (by rw [items_len]; omega), List.getElem?_eq_none (by simp; omega)]; rfl
  constructor
  · intro ho q x hp hx y hy e
    obtain ⟨t, ht⟩ := hp
    obtain ⟨k, hk, rfl⟩ := List.getElem_of_mem hy
    have a1 : (allOf r)[q.length]? = some x.2.2 := by rw [← hall, List.getElem?_map, ← ht]; simp
    have a2 : (allOf r)[k]? = some q[k].2.2 := by rw [← hall, List.getElem?_map, ← ht, List.append_assoc, List.getElem?_append_left hk]; simp [hk]
    obtain ⟨b1, b2⟩ := List.getElem?_eq_some_iff.1 a1
    obtain ⟨b3, b4⟩ := List.getElem?_eq_some_iff.1 a2
    exact ho q.length b1 k hk (by rw [b2]; exact hx) (by rw [b2, b4]; exact e.symm)
  · intro h i hi k hk h0 e
    have hi2 : i < (items r).length := by have := congrArg List.length hall; simp at this; omega
    have e1 : (allOf r)[i] = (items r)[i].2.2 := by simp [← hall]
    have e2 : (allOf r)[k]'(by omega) = ((items r)[k]'(by omega)).2.2 := by simp [← hall]
    have hp : (items r).take i ++ [(items r)[i]] <+: items r := by rw [← List.take_succ_eq_append_getElem hi2]; exact List.take_prefix _ _
    refine h _ _ hp (by rw [← e1]; exact h0) ((items r)[k]'(by omega)) ?_ ?_
    · rw [List.mem_take_iff_getElem]
      exact ⟨k, by omega, rfl⟩
    · rw [← e2, ← e1]; exact e.symm
end Go.Proofs.Ytpnkaoigpefmiaa
