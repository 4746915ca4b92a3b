/- awake: what its calls give. -/
import Derived.Test.YtpnkaoigpefmiaaR40
namespace Go.Proofs.Ytpnkaoigpefmiaa
open Go.RowKit
set_option linter.unusedVariables false
set_option linter.unusedSimpArgs false

def Ra1 : Rb := ⟨3, false, [E0, E0, E0, E0], E0, EA⟩
def Ra2 : Rb := ⟨7, false, [E0, E0, E0, E0], E0, E0⟩
theorem mp_ok : mok Mp := by decide
theorem mp_rail : railOf Mp = 10 := by decide
theorem ea_ne : EA ≠ E0 := by decide
theorem va_Ra : validR Mp Ra := by
  refine ⟨mp_ok, by decide, by rw [mp_rail]; decide, ?_⟩
  intro i hi k hk h
  have hl : (allOf Ra).length = 6 := rfl
  rw [hl] at hi
  have : i = 0 ∨ i = 1 ∨ i = 2 ∨ i = 3 ∨ i = 4 ∨ i = 5 := by omega
  rcases this with rfl | rfl | rfl | rfl | rfl | rfl
  · omega
  · exact absurd rfl h
  · exact absurd rfl h
  · have : k = 0 ∨ k = 1 ∨ k = 2 := by omega
    rcases this with rfl | rfl | rfl <;> exact ea_ne
  · exact absurd rfl h
  · exact absurd rfl h
theorem va_Ra1 : validR Mp Ra1 := by
  refine ⟨mp_ok, by decide, by rw [mp_rail]; decide, ?_⟩
  intro i hi k hk h
  have hl : (allOf Ra1).length = 6 := rfl
  rw [hl] at hi
  have : i = 0 ∨ i = 1 ∨ i = 2 ∨ i = 3 ∨ i = 4 ∨ i = 5 := by omega
  rcases this with rfl | rfl | rfl | rfl | rfl | rfl
  · omega
  · exact absurd rfl h
  · exact absurd rfl h
  · exact absurd rfl h
  · exact absurd rfl h
  · have : k = 0 ∨ k = 1 ∨ k = 2 ∨ k = 3 ∨ k = 4 := by omega
    rcases this with rfl | rfl | rfl | rfl | rfl <;> exact ea_ne
theorem pos_Ra : posOf Mp Ra 0 3 = (3, true) := by
  unfold posOf; rw [if_neg (not_not_intro va_Ra), if_pos (by decide)]
theorem pos_Ra1 : posOf Mp Ra1 1 1 = (7, true) := by
  unfold posOf; rw [if_neg (not_not_intro va_Ra1), if_neg (by decide), if_pos (by decide)]; rfl
theorem reach_Ra : reachOf Mp Ra 0 3 = (⟨3, false, [E0, E0, E0, EA], E0, E0⟩, 6, 0) := by
  unfold reachOf; rw [if_neg (not_not_intro va_Ra), if_neg (by decide), pos_Ra, if_neg (by decide)]
  have : travOf Mp Ra.pos 3 = 6 := by
    unfold travOf; rw [if_pos (show onRail Mp _ _ from ⟨mp_ok, by rw [mp_rail]; decide, by rw [mp_rail]; decide⟩)]; decide
  rw [this]; rfl
theorem reach_Ra1 : reachOf Mp Ra1 1 1 = (⟨7, false, [E0, E0, E0, E0], E0, EA⟩, 8, 0) := by
  unfold reachOf; rw [if_neg (not_not_intro va_Ra1), if_neg (by decide), pos_Ra1, if_neg (by decide)]
  have : travOf Mp Ra1.pos 7 = 8 := by
    unfold travOf; rw [if_pos (show onRail Mp _ _ from ⟨mp_ok, by rw [mp_rail]; decide, by rw [mp_rail]; decide⟩)]; decide
  rw [this]; rfl
theorem pick_Ra : pickOf Mp Ra 0 3 E0 = (Ra1, 11, 0) := by
  have ha : atOf Ra 0 3 = EA := rfl
  unfold pickOf; rw [reach_Ra, if_neg (by decide), if_neg (by decide), if_neg (by decide), ha, if_neg ea_ne]; rfl
theorem put_Ra1 : putOf Mp Ra1 1 1 = (Ra2, 12, 0) := by
  unfold putOf; rw [reach_Ra1, if_neg (by decide), if_neg (by exact ea_ne), if_pos rfl]; rfl
theorem far_Mp : farOf Mp = 49 := by unfold farOf; rw [if_pos mp_ok, mp_rail]; decide
theorem awake_any : Awake := fun w => awake_gen w (Ra1, 11, 0) (Ra2, 12, 0) pick_Ra put_Ra1
  (fun W a c h1 h2 h3 => ⟨h1, h2, h3, by simp [Ra1], fun x hx => by
    simp [items, slotsTo, Ra1, List.range_succ] at hx
    rcases hx with h | h | h | h | h | h <;> (subst h; unfold maxLen; decide), by simp [Ra1], by simp [Ra1]⟩)
  va_Ra far_Mp rfl rfl rfl rfl rfl rfl rfl
end Go.Proofs.Ytpnkaoigpefmiaa
