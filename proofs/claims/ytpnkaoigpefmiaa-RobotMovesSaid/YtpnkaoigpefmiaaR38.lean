/- The reference's Pick and Put, whole. -/
import Derived.Test.YtpnkaoigpefmiaaR37
namespace Go.Proofs.Ytpnkaoigpefmiaa
open Go.RowKit
set_option linter.unusedVariables false
set_option linter.unusedSimpArgs false

theorem rreach_ok {m : Md} {r : Rb} {k i : Int} (h : (reachOf m r k i).2.2 = 0) : rreachOf m r k i = (posOf m r k i).1 := by rw [rreachOf, if_pos h]
theorem withOf_pos (r : Rb) (k i p : Int) (h b : ByteArray) : withOf ⟨p, r.failed, r.slots, r.port, h⟩ k i b = { withOf r k i b with pos := p, hand := h } := by
  unfold withOf
  by_cases h0 : k = 0
  · rw [if_pos h0, if_pos h0]
  · rw [if_neg h0, if_neg h0]
    by_cases h2 : k = 2
    · rw [if_pos h2, if_pos h2]
    · rw [if_neg h2, if_neg h2]
theorem reach_range {m : Md} {r : Rb} {k i : Int} (h : (posOf m r k i).2 = true) : k = 0 → 0 ≤ i ∧ i.toNat < r.slots.length := fun e => by
  subst e
  have := posOf_slot h
  exact ⟨this.1, this.2.2.1⟩
theorem posOf_int {m : Md} {r : Rb} {k i : Int} (h : (posOf m r k i).2 = true) : -9223372036854775808 ≤ (posOf m r k i).1 ∧ (posOf m r k i).1 ≤ 9223372036854775807 := by
  have h1 := posOf_rail h
  have h2 := railOf_le (posOf_valid h).mok
  omega
theorem rpick_any (m : Md) (r : Rb) (a : Option Addr) (c : Nat) (k i : Int) (b : ByteArray) (w : World) (hr : RobIn w r a c)
    (hi0 : -9223372036854775808 ≤ i) (hi1 : i ≤ 9223372036854775807) :
    Calls Try.prog 11 #[m.val, r.val a c, .agg #[.int .i64 k, .int .i64 i], .string b] w (GivesR w (pickOf m r k i b)) := by
  by_cases he : (reachOf m r k i).2.2 = 0
  case neg => exact rpick_err m r a c k i b w hr hi0 hi1 he
  obtain ⟨hv, hf, hp, hk, hre⟩ := reach_ok he
  have hm : 0 ≤ m.pick ∧ m.pick ≤ 1000000 := hv.mok.2.2.2.2.2.1
  have he' : ¬ (reachOf m r k i).2.2 ≠ 0 := by simpa using he
  have hrp := rreach_ok he
  have hpi := posOf_int hp
  by_cases hh : r.hand = E0
  case neg =>
    rw [show pickOf m r k i b = (R0, 0, 14) by rw [pickOf, if_neg he', if_pos hh]]
    exact rpick_busy m r a c k i b w hr hi0 hi1 _ he hrp hpi hm hh
  have hh' : ¬ r.hand ≠ E0 := by simpa using hh
  by_cases hk1 : k = 1
  · subst hk1
    by_cases hb : b = E0
    · rw [show pickOf m r 1 i b = (R0, 0, 8) by rw [pickOf, if_neg he', if_neg hh', if_pos rfl, if_pos (.inr hb)]]
      exact rpick_drive_none m r a c i b w hr hi0 hi1 _ he hrp hpi hm hh hb
    · cases hfu : (findOf r b).2.2 with
      | true =>
        rw [show pickOf m r 1 i b = (R0, 0, 8) by rw [pickOf, if_neg he', if_neg hh', if_pos rfl, if_pos (.inl hfu)]]
        exact rpick_drive_twice m r a c i b w hr hi0 hi1 _ he hrp hpi hm hh hb hfu
      | false =>
        refine rpick_drive m r a c i b w hr hi0 hi1 _ he hrp hpi hm hh hb hfu _ ?_
        rw [pickOf, if_neg he', if_neg hh', if_pos rfl, if_neg (by rintro (h | h); rw [hfu] at h; cases h; exact hb h), hre]
        rfl
  · by_cases hb : atOf r k i = E0
    · rw [show pickOf m r k i b = (R0, 0, 11) by rw [pickOf, if_neg he', if_neg hh', if_neg hk1, if_pos hb]]
      exact rpick_at_none m r a c k i b w hr hi0 hi1 _ he hrp hpi hm hh hk1 (reach_range hp) hb
    · refine rpick_at m r a c k i b w hr hi0 hi1 _ he hrp hpi hm hh hk1 (reach_range hp) _ rfl hb _ ?_
      rw [pickOf, if_neg he', if_neg hh', if_neg hk1, if_neg hb, hre]
      exact congrArg (fun x => (x, _, (0 : Int))) (withOf_pos r k i _ _ _)
theorem rput_any (m : Md) (r : Rb) (a : Option Addr) (c : Nat) (k i : Int) (w : World) (hr : RobIn w r a c)
    (hi0 : -9223372036854775808 ≤ i) (hi1 : i ≤ 9223372036854775807) :
    Calls Try.prog 15 #[m.val, r.val a c, .agg #[.int .i64 k, .int .i64 i]] w (GivesR w (putOf m r k i)) := by
  by_cases he : (reachOf m r k i).2.2 = 0
  case neg => exact rput_err m r a c k i w hr hi0 hi1 he
  obtain ⟨hv, hf, hp, hk, hre⟩ := reach_ok he
  have hm : 0 ≤ m.put ∧ m.put ≤ 1000000 := hv.mok.2.2.2.2.2.2
  have he' : ¬ (reachOf m r k i).2.2 ≠ 0 := by simpa using he
  have hrp := rreach_ok he
  have hpi := posOf_int hp
  by_cases hh : r.hand = E0
  case pos =>
    rw [show putOf m r k i = (R0, 0, 11) by rw [putOf, if_neg he', if_pos hh]]
    exact rput_none m r a c k i w hr hi0 hi1 _ he hrp hpi hm hh
  by_cases hk1 : k = 1
  · subst hk1
    refine rput_drive m r a c i w hr hi0 hi1 _ he hrp hpi hm hh _ ?_
    rw [putOf, if_neg he', if_neg hh, if_pos rfl, hre]
    rfl
  · by_cases hb : atOf r k i = E0
    · refine rput_at m r a c k i w hr hi0 hi1 _ he hrp hpi hm hh hk1 (reach_range hp) hb _ ?_
      rw [putOf, if_neg he', if_neg hh, if_neg hk1, if_neg (by simpa using hb), hre]
      exact congrArg (fun x => (x, _, (0 : Int))) (withOf_pos r k i _ _ _)
    · rw [show putOf m r k i = (R0, 0, 12) by rw [putOf, if_neg he', if_neg hh, if_neg hk1, if_pos hb]]
      exact rput_full m r a c k i w hr hi0 hi1 _ he hrp hpi hm hh hk1 (reach_range hp) _ rfl hb
end Go.Proofs.Ytpnkaoigpefmiaa
