/- A Pick and a Put in a row: times and counts. -/
import Derived.Test.YtpnkaoigpefmiaaR49
namespace Go.Proofs.Ytpnkaoigpefmiaa
open Go.RowKit
set_option linter.unusedVariables false
set_option linter.unusedSimpArgs false

theorem pick_fail {m : Md} {r : Rb} {k i : Int} {b : ByteArray} (h : (pickOf m r k i b).2.2 ≠ 0) : pickOf m r k i b = (R0, 0, (pickOf m r k i b).2.2) := by
  unfold pickOf at h ⊢
  split
  · rfl
  · rename_i h1; rw [if_neg h1] at h
    split
    · rfl
    · rename_i h2; rw [if_neg h2] at h
      split
      · rename_i h3; rw [if_pos h3] at h
        split
        · rfl
        · rename_i h4; rw [if_neg h4] at h; exact absurd rfl h
      · rename_i h3; rw [if_neg h3] at h
        split
        · rfl
        · rename_i h4; rw [if_neg h4] at h; exact absurd rfl h
theorem put_fail {m : Md} {r : Rb} {k i : Int} (h : (putOf m r k i).2.2 ≠ 0) : putOf m r k i = (R0, 0, (putOf m r k i).2.2) := by
  unfold putOf at h ⊢
  split
  · rfl
  · rename_i h1; rw [if_neg h1] at h
    split
    · rfl
    · rename_i h2; rw [if_neg h2] at h
      split
      · rename_i h3; rw [if_pos h3] at h; exact absurd rfl h
      · rename_i h3; rw [if_neg h3] at h
        split
        · rfl
        · rename_i h4; rw [if_neg h4] at h; exact absurd rfl h
theorem trav_le {m : Md} (hm : mok m) (f t : Int) : travOf m f t ≤ m.move * railOf m := by
  have h0 : 0 ≤ m.move := hm.2.2.2.2.1.1
  have hr := railOf_le hm
  unfold travOf
  by_cases h : onRail m f t
  · rw [if_pos h]
    obtain ⟨_, ⟨h1, h2⟩, ⟨h3, h4⟩⟩ := h
    apply Int.mul_le_mul_of_nonneg_left _ h0
    split <;> omega
  · rw [if_neg h]; exact Int.mul_nonneg h0 hr.1
/-- What a Pick and a Put in a row give. -/
structure Moved (m : Md) (r a b : Rb) (k2 n1 n2 : Int) : Prop where
  va : validR m a
  vb : validR m b
  hand : a.hand ≠ E0
  handb : b.hand = E0
  t1 : m.pick ≤ n1
  t2 : n1 + n2 ≤ farOf m
  t3 : m.pick + m.put ≤ n1 + n2
  b1 : 0 ≤ n1 ∧ n1 ≤ 4002000000
  b2 : 0 ≤ n2 ∧ n2 ≤ 4002000000
  was : ∀ s ∈ allOf r, s ≠ E0 → s ≠ a.hand → cnt (allOf b) s = 1
  now : ∀ s ∈ allOf b, s ≠ E0 → s ≠ a.hand → cnt (allOf r) s = 1
  last : cnt (allOf b) a.hand = if k2 = 1 then 0 else 1
theorem moved {m : Md} {r a b : Rb} {k1 i1 k2 i2 n1 n2 : Int} {bc : ByteArray} (P : Picked m r k1 i1 bc a n1) (Q : Placed m a k2 i2 b n2) : Moved m r a b k2 n1 n2 := by
  have va := picked_valid P
  have vb := placed_valid Q
  have hm := P.valid.mok
  have p1 := trav_le hm r.pos (posOf m r k1 i1).1
  have p2 := trav_le hm a.pos (posOf m a k2 i2).1
  have q1 := travOf_in m r.pos (posOf m r k1 i1).1
  have q2 := travOf_in m a.pos (posOf m a k2 i2).1
  have hpk : 0 ≤ m.pick ∧ m.pick ≤ 1000000 := hm.2.2.2.2.2.1
  have hpu : 0 ≤ m.put ∧ m.put ≤ 1000000 := hm.2.2.2.2.2.2
  have e1 := P.time
  have e2 := Q.time
  have ef : farOf m = 2 * m.move * railOf m + m.pick + m.put := by unfold farOf; rw [if_pos hm]
  have e3 : 2 * m.move * railOf m = m.move * railOf m + m.move * railOf m := by rw [Int.mul_assoc, Int.two_mul]
  have cA : ∀ s, s ≠ E0 → s ≠ a.hand → cr a s = cr r s := fun s hs hn => by
    have hz : is1 a.hand s = 0 := if_neg (fun e => hn e.symm)
    rw [P.counts s hs, hz]; simp
  have cB : ∀ s, s ≠ E0 → s ≠ a.hand → cr b s = cr a s := fun s hs hn => by
    have := Q.counts s hs
    have hz : is1 a.hand s = 0 := if_neg (fun e => hn e.symm)
    rw [hz] at this
    simpa using this
  refine ⟨va, vb, P.hand, Q.hand, by omega, by rw [ef, e3]; omega, by omega, by omega, by omega, fun s hs h0 hn => ?_, fun s hs h0 hn => ?_, ?_⟩
  · have h1 := cnt_mem hs
    have h2 := valid_cr P.valid s h0
    show cr b s = 1
    rw [cB s h0 hn, cA s h0 hn]
    unfold cr at h2 ⊢; omega
  · have h1 := cnt_mem hs
    have h2 := valid_cr P.valid s h0
    have h3 : cr b s = cr r s := (cB s h0 hn).trans (cA s h0 hn)
    unfold cr at h2 h3; omega
  · have h1 := valid_cr va a.hand P.hand
    have h2 : 1 ≤ cr a a.hand := cnt_mem (by unfold allOf; simp)
    have h3 := Q.counts a.hand P.hand
    rw [is1_self] at h3
    show cr b a.hand = _
    split
    · rename_i h; rw [if_pos h] at h3; omega
    · rename_i h; rw [if_neg h] at h3; omega
end Go.Proofs.Ytpnkaoigpefmiaa
