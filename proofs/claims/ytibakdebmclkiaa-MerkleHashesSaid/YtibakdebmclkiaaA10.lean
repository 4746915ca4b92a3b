/- The contract of the statements' comparison of two lists. -/
import Derived.Test.YtibakdebmclkiaaA8
namespace Go.Proofs.Ytibakdebmclkiaa
open Go.RowKit
set_option linter.unusedVariables false
set_option linter.unusedSimpArgs false

set_option maxHeartbeats 2000000 in
theorem same_any (a b : Option Addr) (c d : Nat) (xs : List Int) (w : World) (hx : Ints .u64 w a xs) (hy : Ints .u64 w b xs) (hl : xs.length ≤ 140737488351000) :
    Calls Try.prog 15 #[.slice a xs.length c, .slice b xs.length d] w fun e w' => e = .returned (.bool true) ∧ Below w.heap.size w w' := by
  have q0 : ((xs.length : Int) != (xs.length : Int)) = false := bne_self_eq_false _
  go_enter Try.func15, Try.ntmps15
  go_wp2
  go_loopw [5] (fun i wr => ∃ k : Nat, k ≤ xs.length ∧ i = .int .i64 k ∧ Below w.heap.size w wr) (fun i _ => xs.length - (intOf i).toNat)
  case atStart => exact ⟨0, Nat.zero_le _, rfl, Below.refl _ _⟩
  case round =>
    obtain ⟨k, hk, rfl, hb⟩ := hrel
    by_cases hlt : k < xs.length
    · obtain ⟨x, rfl, hcx⟩ := (hx.below hb).at hlt
      obtain ⟨y, rfl, hcy⟩ := (hy.below hb).at hlt
      have hxk : xs.getD k 0 = xs[k] := by simp [hlt]
      rw [hxk] at hcx hcy
      generalize xs[k] = z at *
      have q1 : (z != z) = false := bne_self_eq_false _
      have b1 : (0 : Int) ≤ (k : Int) := by omega
      have b2 : (k : Int) < (xs.length : Int) := by omega
      have HX := Lib.hid hx
      have HY := Lib.hid hy
      clear hx hy hxk
      go_wp2
      go_quiet (fail)
      go_wp2
      go_roundw
      case rel => exact ⟨k + 1, by omega, by go_num, below_drewN hb _⟩
      case measure => simp [intOf]; omega
    · go_wp2
      go_ret
      exact ⟨rfl, hb⟩
end Go.Proofs.Ytibakdebmclkiaa
