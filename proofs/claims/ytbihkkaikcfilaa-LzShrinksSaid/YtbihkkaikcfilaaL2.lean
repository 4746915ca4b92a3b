/- The contract of the reference's Uint: it returns the same function of the bytes and the place. -/
import Derived.Test.YtbihkkaikcfilaaL1
namespace Go.Proofs.Ytbihkkaikcfilaa
open Go.RowKit
set_option linter.unusedVariables false
set_option linter.unusedSimpArgs false

set_option maxHeartbeats 2000000 in
theorem ruint_any (p : Nat) (a : Option Addr) (c : Nat) (xs : List Int) (w : World) (hp : p ≤ xs.length) (hx : Ints .u8 w a xs) (hb : AllB xs) (hc : xs.length ≤ c) (hl : xs.length ≤ 140737488351000) :
    Calls Try.prog 18 #[.slice a xs.length c, .int .i64 p] w fun e w' => e = .returned (u3 (uintOf xs p)) ∧ w = w' := by
  have d0 : decide ((p : Int) < 0) = false := decide_eq_false (by omega)
  have d1 : decide ((p : Int) > (xs.length : Int)) = false := decide_eq_false (by omega)
  have d1' : decide (p > xs.length) = false := decide_eq_false (by omega)
  go_enter Try.func18, Try.ntmps18
  go_wp2
  go_loop [7, 8, 9] (fun n f i => ∃ (k : Nat) (z q : Int), k ≤ 10 ∧ i = .int .i64 k ∧ n = .int .u64 z ∧ f = .int .u64 q ∧ (k ≤ 9 → q = 128 ^ k ∧ 0 ≤ z ∧ z < 128 ^ k) ∧ uintOf xs p = ug xs p (10 - k) k z) (fun _ _ i => 10 - (intOf i).toNat)
  case atStart => exact ⟨0, 0, 1, by omega, rfl, rfl, rfl, fun _ => ⟨by simp, by omega, by simp⟩, rfl⟩
  case round =>
    obtain ⟨k, z, q, hk, rfl, rfl, rfl, hz, hu⟩ := hrel
    by_cases hlt : k < 10
    · have hlt' : (k : Int) < 10 := by omega
      have hug : ug xs p (10 - k) k z = ug xs p (9 - k + 1) k z := by congr 1; omega
      rw [hug] at hu
      unfold ug at hu
      by_cases hend : xs.length ≤ p + k
      · rw [if_pos hend] at hu
        have t0 : decide ((p : Int) + (k : Int) ≥ (xs.length : Int)) = true := decide_eq_true (by omega)
        have HU := Lib.hid hu
        clear hu hug hz
        go_wp2
        go_ret3
        exact ⟨by rw [u3, HU.out]; rfl, rfl⟩
      rw [if_neg hend] at hu
      have t0 : decide ((p : Int) + (k : Int) ≥ (xs.length : Int)) = false := decide_eq_false (by omega)
      obtain ⟨x, rfl, hcell⟩ := hx.at (i := p + k) (by omega)
      have hxb := hb.getD (p + k)
      generalize xs.getD (p + k) 0 = y at *
      have hz' := hz (by omega)
      have HZ := Lib.hid hz'
      have HX := Lib.hid hx
      have b1 : (p : Int) + (k : Int) < (xs.length : Int) := by omega
      have hk9 : (k : Int) ≤ 9 := by omega
      clear hz hz' hug hx
      by_cases c2 : 128 ≤ y
      · have t1 : decide (y ≥ 128) = true := decide_eq_true c2
        rw [if_pos c2] at hu
        have HU := Lib.hid hu
        clear hu
        go_wp2
        go_round
        case rel =>
          by_cases h8 : k ≤ 8
          · obtain ⟨e1, e2, e3⟩ := shl_step k (y - 128) z h8 (by omega) (by omega) HZ.out.2
            have hs : (128 : Int) ^ (k + 1) = 128 ^ k * 128 := Int.pow_succ ..
            have h9 := pow9 (k + 1) (by omega)
            have hp : (0 : Int) < 128 ^ k := Int.pow_pos (by omega)
            refine ⟨k + 1, _, _, by omega, by go_num, rfl, rfl, fun _ => ⟨?_, ?_⟩, ?_⟩
            · rw [HZ.out.1, IntWalk.u64_in _ (by omega), hs]
            · rw [HZ.out.1, ← pow7, e1]; exact ⟨e2, e3⟩
            · rw [HU.out, HZ.out.1, ← pow7, e1, pow7]; congr 1; omega
          · obtain rfl : k = 9 := by omega
            exact ⟨9 + 1, _, _, by omega, by go_num, rfl, rfl, fun h => by omega, HU.out⟩
        case measure => simp [intOf]; omega
      · have t1 : decide (y ≥ 128) = false := decide_eq_false c2
        rw [if_neg c2] at hu
        by_cases c3 : k = 9 ∧ 1 < y
        · have t2 : ((k : Int) == 9) = true := beq_iff_eq.2 (by omega)
          have t3 : decide (y > 1) = true := decide_eq_true c3.2
          rw [if_pos c3] at hu
          have HU := Lib.hid hu
          clear hu c3
          go_wp2
          go_ret3
          exact ⟨by rw [u3, HU.out]; rfl, rfl⟩
        · rw [if_neg c3] at hu
          by_cases c4 : 0 < k ∧ y = 0
          · have t4 : decide ((k : Int) > 0) = true := decide_eq_true (by omega)
            have t5 : (y == 0) = true := beq_iff_eq.2 c4.2
            have t3 : decide (y > 1) = false := decide_eq_false (by omega)
            rw [if_pos c4] at hu
            have HU := Lib.hid hu
            have hk0 := c4.1
            clear hu c3 c4
            by_cases h9 : k = 9
            · have t2 : ((k : Int) == 9) = true := beq_iff_eq.2 (by omega)
              clear h9
              go_wp2
              go_ret3
              exact ⟨by rw [u3, HU.out]; rfl, rfl⟩
            · have t2 : ((k : Int) == 9) = false := beq_eq_false_iff_ne.2 (by omega)
              clear h9
              go_wp2
              go_ret3
              exact ⟨by rw [u3, HU.out]; rfl, rfl⟩
          · rw [if_neg c4] at hu
            have e1 := shl_last k y z (by omega) (by omega) (by omega) (fun h => by omega) HZ.out.2
            rw [← e1, pow7, ← HZ.out.1] at hu
            have HU := Lib.hid hu
            clear hu e1
            by_cases h9 : k = 9
            · have t2 : ((k : Int) == 9) = true := beq_iff_eq.2 (by omega)
              have t3 : decide (y > 1) = false := decide_eq_false (by omega)
              have t4 : decide ((k : Int) > 0) = true := decide_eq_true (by omega)
              have t5 : (y == 0) = false := beq_eq_false_iff_ne.2 (by omega)
              have hk0 : 0 < k := by omega
              clear h9 c3 c4
              go_wp2
              go_ret3
              exact ⟨by rw [u3, HU.out]; rfl, rfl⟩
            · have t2 : ((k : Int) == 9) = false := beq_eq_false_iff_ne.2 (by omega)
              by_cases hk0 : 0 < k
              · have t4 : decide ((k : Int) > 0) = true := decide_eq_true (by omega)
                have t5 : (y == 0) = false := beq_eq_false_iff_ne.2 (by omega)
                clear h9 c3 c4
                go_wp2
                go_ret3
                exact ⟨by rw [u3, HU.out]; rfl, rfl⟩
              · have t4 : decide ((k : Int) > 0) = false := decide_eq_false (by omega)
                clear h9 c3 c4
                go_wp2
                go_ret3
                exact ⟨by rw [u3, HU.out]; rfl, rfl⟩
    · obtain rfl : k = 10 := by omega
      have HU := Lib.hid hu
      clear hu hz
      go_wp2
      go_ret3
      exact ⟨by rw [u3, HU.out]; rfl, rfl⟩
end Go.Proofs.Ytbihkkaikcfilaa
