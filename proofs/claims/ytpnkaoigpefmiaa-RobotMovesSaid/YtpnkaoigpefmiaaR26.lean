/- What Pick and Put give: plain words. -/
import Derived.Test.YtpnkaoigpefmiaaR25
namespace Go.Proofs.Ytpnkaoigpefmiaa
open Go.RowKit
set_option linter.unusedVariables false
set_option linter.unusedSimpArgs false

def atOf (r : Rb) (k i : Int) : ByteArray := if k = 0 then r.slots[i.toNat]?.getD E0 else r.port
def withOf (r : Rb) (k i : Int) (b : ByteArray) : Rb :=
  if k = 0 then { r with slots := r.slots.set i.toNat b } else if k = 2 then { r with port := b } else r
noncomputable def pickOf (m : Md) (r : Rb) (k i : Int) (b : ByteArray) : Rb × Int × Int :=
  if (reachOf m r k i).2.2 ≠ 0 then (R0, 0, (reachOf m r k i).2.2)
  else if r.hand ≠ E0 then (R0, 0, 14)
  else if k = 1 then (if (findOf r b).2.2 = true ∨ b = E0 then (R0, 0, 8) else ({ (reachOf m r k i).1 with hand := b }, (reachOf m r k i).2.1 + m.pick, 0))
  else if atOf r k i = E0 then (R0, 0, 11)
  else (withOf { (reachOf m r k i).1 with hand := atOf r k i } k i E0, (reachOf m r k i).2.1 + m.pick, 0)
noncomputable def putOf (m : Md) (r : Rb) (k i : Int) : Rb × Int × Int :=
  if (reachOf m r k i).2.2 ≠ 0 then (R0, 0, (reachOf m r k i).2.2)
  else if r.hand = E0 then (R0, 0, 11)
  else if k = 1 then ({ (reachOf m r k i).1 with hand := E0 }, (reachOf m r k i).2.1 + m.put, 0)
  else if atOf r k i ≠ E0 then (R0, 0, 12)
  else (withOf { (reachOf m r k i).1 with hand := E0 } k i r.hand, (reachOf m r k i).2.1 + m.put, 0)
theorem reach_ok {m : Md} {r : Rb} {k i : Int} (h : (reachOf m r k i).2.2 = 0) :
    validR m r ∧ r.failed = false ∧ (posOf m r k i).2 = true ∧ (k = 0 ∨ k = 1 ∨ k = 2) ∧ reachOf m r k i = ({ r with pos := (posOf m r k i).1 }, travOf m r.pos (posOf m r k i).1, 0) := by
  unfold reachOf at h ⊢
  by_cases h1 : validR m r
  case neg => rw [if_pos h1] at h; cases h
  rw [if_neg (not_not_intro h1)] at h ⊢
  by_cases h2 : r.failed = true
  · rw [if_pos h2] at h; cases h
  rw [if_neg h2] at h ⊢
  by_cases h3 : k = 3 ∨ (posOf m r k i).2 = false
  · rw [if_pos h3] at h; cases h
  rw [if_neg h3]
  have h4 : (posOf m r k i).2 = true := by
    cases h5 : (posOf m r k i).2 with
    | true => rfl
    | false => exact absurd (.inr h5) h3
  have h6 := posOf_kind h4
  exact ⟨h1, by simpa using h2, h4, by omega, rfl⟩
theorem posOf_slot {m : Md} {r : Rb} {i : Int} (h : (posOf m r 0 i).2 = true) : 0 ≤ i ∧ i < m.slots ∧ i.toNat < r.slots.length ∧ (posOf m r 0 i).1 = i := by
  have hv := posOf_valid h
  have hl := hv.len
  unfold posOf at h ⊢
  rw [if_neg (not_not_intro hv)] at h ⊢
  by_cases b1 : 0 ≤ i ∧ i < m.slots
  · rw [if_pos ⟨rfl, b1⟩]
    exact ⟨b1.1, b1.2, by omega, rfl⟩
  rw [if_neg (by omega), if_neg (by omega), if_neg (by omega), if_neg (by omega)] at h; cases h
theorem reach_err {m : Md} {r : Rb} {k i : Int} (h : (reachOf m r k i).2.2 ≠ 0) : reachOf m r k i = (R0, 0, (reachOf m r k i).2.2) := by
  unfold reachOf at h ⊢
  by_cases h1 : validR m r
  case neg => rw [if_pos h1]
  rw [if_neg (not_not_intro h1)] at h ⊢
  by_cases h2 : r.failed = true
  · rw [if_pos h2]
  rw [if_neg h2] at h ⊢
  by_cases h3 : k = 3 ∨ (posOf m r k i).2 = false
  · rw [if_pos h3]
  rw [if_neg h3] at h; exact absurd rfl h
end Go.Proofs.Ytpnkaoigpefmiaa
