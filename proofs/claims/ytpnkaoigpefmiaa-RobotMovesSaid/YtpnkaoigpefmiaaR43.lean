/- Same. -/
import Derived.Test.YtpnkaoigpefmiaaR42
namespace Go.Proofs.Ytpnkaoigpefmiaa
open Go.RowKit
set_option linter.unusedVariables false
set_option linter.unusedSimpArgs false

theorem str_beq (s t : ByteArray) : (s.toList == t.toList) = decide (s = t) := by
  by_cases h : s = t
  · rw [eq_str h, decide_eq_true h]
  · rw [ne_str h, decide_eq_false h]
set_option maxRecDepth 100000 in
set_option maxHeartbeats 1000000 in
theorem same_yes (r : Rb) (a1 : Option Addr) (c1 : Nat) (a2 : Option Addr) (c2 : Nat) (w : World) (h1 : Strs w a1 r.slots) (h2 : Strs w a2 r.slots) (hc1 : r.slots.length ≤ c1) (hc2 : r.slots.length ≤ c2) (hl : r.slots.length ≤ 1000000) :
    Calls Try.prog 12 #[r.val a1 c1, r.val a2 c2] w fun e w' => e = .returned (.bool true) ∧ Below w.heap.size w w' := by
  obtain ⟨p0, fl, ss, pt, ha⟩ := r
  dsimp only at hc1 hc2 hl
  have L2 := below_alloc (below_alloc (Below.refl _ w) (.cells #[.int .i64 p0, .bool fl, .slice a1 ss.length c1, .string pt, .string ha] 26)) (.cells #[.int .i64 p0, .bool fl, .slice a2 ss.length c2, .string pt, .string ha] 26)
  have x1 := h1.below L2
  have x2 := h2.below L2
  have HL := Lib.hid L2
  have e1 : (p0 != p0) = false := by simp
  have e2 := eq_str (rfl : pt = pt)
  have e3 := eq_str (rfl : ha = ha)
  obtain ⟨W2, hW2⟩ : ∃ W2, W2 = (w.alloc (.cells #[.int .i64 p0, .bool fl, .slice a1 ss.length c1, .string pt, .string ha] 26)).alloc (.cells #[.int .i64 p0, .bool fl, .slice a2 ss.length c2, .string pt, .string ha] 26) := ⟨_, rfl⟩
  have R1 : Blk W2 w.heap.size 26 #[.int .i64 p0, .bool fl, .slice a1 ss.length c1, .string pt, .string ha] := by rw [hW2]; exact (Blk.new w 26 _).alloc _
  have R2 : Blk W2 (w.heap.size + 1) 26 #[.int .i64 p0, .bool fl, .slice a2 ss.length c2, .string pt, .string ha] := by
    have := Blk.new (w.alloc (.cells #[.int .i64 p0, .bool fl, .slice a1 ss.length c1, .string pt, .string ha] 26)) 26 #[.int .i64 p0, .bool fl, .slice a2 ss.length c2, .string pt, .string ha]
    simp only [World.size_alloc] at this; rw [hW2]; exact this
  rw [← hW2] at x1 x2 HL
  unfold Rb.val
  go_enter Try.func12, Try.ntmps12
  cases fl
  all_goals
    go_wp2
    rw [← hW2]
    obtain ⟨b0, b1, b2, b3, b4⟩ := R1.at5
    obtain ⟨d0, d1, d2, d3, d4⟩ := R2.at5
    have HR1 := Lib.hid R1
    have HR2 := Lib.hid R2
    clear hW2 R1 R2
    go_loopw [5] (fun i wr => ∃ k n : Nat, i = .int .i64 k ∧ k ≤ ss.length ∧ wr = W2.drewN n) (fun i _ => ss.length - (intOf i).toNat)
    case atStart => exact ⟨0, 0, rfl, by omega, rfl⟩
    case round =>
      obtain ⟨k, n, rfl, hk, rfl⟩ := hrel
      by_cases h : k < ss.length
      · obtain ⟨y1, rfl, hcell1⟩ := x1.at h
        obtain ⟨y2, rfl, hcell2⟩ := x2.at h
        generalize ss[k] = s at *
        have hq := eq_str (rfl : s = s)
        have g1 : (0 : Int) ≤ (k : Int) := by omega
        have g2 : (k : Int) < (ss.length : Int) := by omega
        go_wp2
        go_quiet (fail)
        go_wp2
        go_roundw
        case rel => exact ⟨k + 1, n + nq, by go_num, by omega, rfl⟩
        case measure => simp [intOf]; omega
      · go_wp2
        go_ret
        exact ⟨rfl, below_drewN HL.out _⟩
end Go.Proofs.Ytpnkaoigpefmiaa
