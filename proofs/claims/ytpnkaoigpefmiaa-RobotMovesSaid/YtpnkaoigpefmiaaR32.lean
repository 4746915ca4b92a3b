/- Pick and Put, whole. -/
import Derived.Test.YtpnkaoigpefmiaaR31
namespace Go.Proofs.Ytpnkaoigpefmiaa
open Go.RowKit
set_option linter.unusedVariables false
set_option linter.unusedSimpArgs false

theorem pick_any (m : Md) (r : Rb) (a : Option Addr) (c : Nat) (k i : Int) (b : ByteArray) (w : World) (hr : RobIn w r a c)
    (hi0 : -9223372036854775808 ≤ i) (hi1 : i ≤ 9223372036854775807) :
    Calls Try.prog 10 #[m.val, r.val a c, .agg #[.int .i64 k, .int .i64 i], .string b] w (GivesR w (pickOf m r k i b)) := by
  by_cases he : (reachOf m r k i).2.2 = 0
  case neg => exact pick_err m r a c k i b w hr hi0 hi1 he
  obtain ⟨hv, hf, hp, hk, hre⟩ := reach_ok he
  have ht := travOf_in m r.pos (posOf m r k i).1
  have hm : 0 ≤ m.pick ∧ m.pick ≤ 1000000 := hv.mok.2.2.2.2.2.1
  have he' : ¬ (reachOf m r k i).2.2 ≠ 0 := by simpa using he
  by_cases hh : r.hand = E0
  case neg =>
    rw [show pickOf m r k i b = (R0, 0, 14) by rw [pickOf, if_neg he', if_pos hh]]
    exact pick_busy m r a c k i b w hr hi0 hi1 _ _ hre ht hm hh
  have hh' : ¬ r.hand ≠ E0 := by simpa using hh
  rcases hk with rfl | rfl | rfl
  · obtain ⟨h0, h1, h2, h3⟩ := posOf_slot hp
    obtain ⟨j, rfl⟩ := Int.eq_ofNat_of_zero_le h0
    have hj : j < r.slots.length := by simpa using h2
    have hat : atOf r 0 (j : Int) = r.slots[j] := by simp [atOf, hj]
    by_cases hb : r.slots[j] = E0
    · rw [show pickOf m r 0 (j : Int) b = (R0, 0, 11) by rw [pickOf, if_neg he', if_neg hh', if_neg (by decide), if_pos (by rw [hat]; exact hb)]]
      exact pick_slot_none m r a c j b w hr hi0 hi1 _ _ hre ht hm hh hr.len hj hb
    · rw [show pickOf m r 0 (j : Int) b = ({ r with pos := (posOf m r 0 j).1, slots := r.slots.set j E0, hand := r.slots[j] }, travOf m r.pos (posOf m r 0 j).1 + m.pick, 0) by
        rw [pickOf, if_neg he', if_neg hh', if_neg (by decide), if_neg (by rw [hat]; exact hb), hre, hat]; simp [withOf]]
      exact pick_slot m r a c j b w hr hi0 hi1 _ _ hre ht hm hh hr.len hj hb
  · cases hfu : (findOf r b).2.2 with
    | true =>
      rw [show pickOf m r 1 i b = (R0, 0, 8) by rw [pickOf, if_neg he', if_neg hh', if_pos rfl, if_pos (.inl hfu)]]
      exact pick_drive_twice m r a c i b w hr hi0 hi1 _ _ hre ht hm hh hfu
    | false =>
      by_cases hb : b = E0
      · rw [show pickOf m r 1 i b = (R0, 0, 8) by rw [pickOf, if_neg he', if_neg hh', if_pos rfl, if_pos (.inr hb)]]
        exact pick_drive_none m r a c i b w hr hi0 hi1 _ _ hre ht hm hh hfu hb
      · rw [show pickOf m r 1 i b = ({ r with pos := (posOf m r 1 i).1, hand := b }, travOf m r.pos (posOf m r 1 i).1 + m.pick, 0) by
          rw [pickOf, if_neg he', if_neg hh', if_pos rfl, if_neg (by rintro (h | h); rw [hfu] at h; cases h; exact hb h), hre]]
        exact pick_drive m r a c i b w hr hi0 hi1 _ _ hre ht hm hh hfu hb
  · have hat : atOf r 2 i = r.port := by simp [atOf]
    by_cases hb : r.port = E0
    · rw [show pickOf m r 2 i b = (R0, 0, 11) by rw [pickOf, if_neg he', if_neg hh', if_neg (by decide), if_pos (by rw [hat]; exact hb)]]
      exact pick_port_none m r a c i b w hr hi0 hi1 _ _ hre ht hm hh hb
    · rw [show pickOf m r 2 i b = ({ r with pos := (posOf m r 2 i).1, port := E0, hand := r.port }, travOf m r.pos (posOf m r 2 i).1 + m.pick, 0) by
        rw [pickOf, if_neg he', if_neg hh', if_neg (by decide), if_neg (by rw [hat]; exact hb), hre, hat]; simp [withOf]]
      exact pick_port m r a c i b w hr hi0 hi1 _ _ hre ht hm hh hb

theorem put_any (m : Md) (r : Rb) (a : Option Addr) (c : Nat) (k i : Int) (w : World) (hr : RobIn w r a c)
    (hi0 : -9223372036854775808 ≤ i) (hi1 : i ≤ 9223372036854775807) :
    Calls Try.prog 14 #[m.val, r.val a c, .agg #[.int .i64 k, .int .i64 i]] w (GivesR w (putOf m r k i)) := by
  by_cases he : (reachOf m r k i).2.2 = 0
  case neg => exact put_err m r a c k i w hr hi0 hi1 he
  obtain ⟨hv, hf, hp, hk, hre⟩ := reach_ok he
  have ht := travOf_in m r.pos (posOf m r k i).1
  have hm : 0 ≤ m.put ∧ m.put ≤ 1000000 := hv.mok.2.2.2.2.2.2
  have he' : ¬ (reachOf m r k i).2.2 ≠ 0 := by simpa using he
  by_cases hh : r.hand = E0
  case pos =>
    rw [show putOf m r k i = (R0, 0, 11) by rw [putOf, if_neg he', if_pos hh]]
    exact put_none m r a c k i w hr hi0 hi1 _ _ hre ht hm hh
  rcases hk with rfl | rfl | rfl
  · obtain ⟨h0, h1, h2, h3⟩ := posOf_slot hp
    obtain ⟨j, rfl⟩ := Int.eq_ofNat_of_zero_le h0
    have hj : j < r.slots.length := by simpa using h2
    have hat : atOf r 0 (j : Int) = r.slots[j] := by simp [atOf, hj]
    by_cases hb : r.slots[j] = E0
    · rw [show putOf m r 0 (j : Int) = ({ r with pos := (posOf m r 0 j).1, slots := r.slots.set j r.hand, hand := E0 }, travOf m r.pos (posOf m r 0 j).1 + m.put, 0) by
        rw [putOf, if_neg he', if_neg hh, if_neg (by decide), if_neg (by rw [hat]; simpa using hb), hre]; simp [withOf]]
      exact put_slot m r a c j w hr hi0 hi1 _ _ hre ht hm hh hr.len hj hb
    · rw [show putOf m r 0 (j : Int) = (R0, 0, 12) by rw [putOf, if_neg he', if_neg hh, if_neg (by decide), if_pos (by rw [hat]; exact hb)]]
      exact put_slot_full m r a c j w hr hi0 hi1 _ _ hre ht hm hh hr.len hj hb
  · rw [show putOf m r 1 i = ({ r with pos := (posOf m r 1 i).1, hand := E0 }, travOf m r.pos (posOf m r 1 i).1 + m.put, 0) by
      rw [putOf, if_neg he', if_neg hh, if_pos rfl, hre]]
    exact put_drive m r a c i w hr hi0 hi1 _ _ hre ht hm hh
  · have hat : atOf r 2 i = r.port := by simp [atOf]
    by_cases hb : r.port = E0
    · rw [show putOf m r 2 i = ({ r with pos := (posOf m r 2 i).1, port := r.hand, hand := E0 }, travOf m r.pos (posOf m r 2 i).1 + m.put, 0) by
        rw [putOf, if_neg he', if_neg hh, if_neg (by decide), if_neg (by rw [hat]; simpa using hb), hre]; simp [withOf]]
      exact put_port m r a c i w hr hi0 hi1 _ _ hre ht hm hh hb
    · rw [show putOf m r 2 i = (R0, 0, 12) by rw [putOf, if_neg he', if_neg hh, if_neg (by decide), if_pos (by rw [hat]; exact hb)]]
      exact put_port_full m r a c i w hr hi0 hi1 _ _ hre ht hm hh hb
end Go.Proofs.Ytpnkaoigpefmiaa
