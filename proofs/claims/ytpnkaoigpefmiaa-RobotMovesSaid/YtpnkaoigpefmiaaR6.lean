/- slices.Index, and Empty. -/
import Derived.Test.YtpnkaoigpefmiaaR5
namespace Go.Proofs.Ytpnkaoigpefmiaa
open Go.RowKit
set_option linter.unusedVariables false
set_option linter.unusedSimpArgs false

set_option maxRecDepth 100000 in
set_option maxHeartbeats 4000000 in
theorem index_any (ss : List ByteArray) (a : Option Addr) (c : Nat) (b : ByteArray) (w : World) (hx : Strs w a ss) (hc : ss.length ≤ c) (hl : ss.length ≤ 1000000) :
    Calls Try.prog 40 #[.slice a ss.length c, .string b] w fun e w' => ∃ i : Int, e = .returned (.int .i64 i) ∧ ((∃ k : Nat, i = k ∧ ∃ h : k < ss.length, ss[k] = b ∧ ∀ j (h : j < k) (h2 : j < ss.length), ss[j] ≠ b) ∨ (i = -1 ∧ ∀ j (h : j < ss.length), ss[j] ≠ b)) ∧ w' = w := by
  go_enter Try.func40, Try.ntmps40
  go_wp2
  go_loopw [8] (fun i wr => ∃ k : Nat, i = .int .i64 k ∧ k ≤ ss.length ∧ Hid (∀ j (h : j < k) (h2 : j < ss.length), ss[j] ≠ b) ∧ wr = w) (fun i _ => ss.length - (intOf i).toNat)
  case atStart => exact ⟨0, rfl, by omega, Lib.hid fun j h => absurd h (by omega), rfl⟩
  case round =>
    obtain ⟨k, rfl, hk, HQ, rfl⟩ := hrel
    by_cases h : k < ss.length
    · obtain ⟨x, rfl, hcell⟩ := hx.at h
      by_cases he : ss[k] = b
      · have HV := Lib.hid he
        rw [he] at hcell
        have hq := eq_str (rfl : b = b)
        clear he
        go_wp2
        go_ret
        exact ⟨k, rfl, .inl ⟨k, rfl, h, HV.out, HQ.out⟩, rfl⟩
      · have HE := Lib.hid he
        have hes := ne_str (fun e => he (Eq.symm e) : b ≠ ss[k])
        generalize hs : ss[k] = s at *
        clear he
        go_wp2
        go_roundw
        case rel => exact ⟨k + 1, by go_num, by omega, Lib.hid fun j h1 h2 => by
            by_cases hj : j = k
            · subst hj; rw [hs]; exact HE.out
            · exact HQ.out j (by omega) h2, trivial⟩
        case measure => simp [intOf]; omega
    · go_wp2
      go_ret
      exact ⟨-1, rfl, .inr ⟨rfl, fun j hj => HQ.out j (by omega) hj⟩, rfl⟩
set_option maxRecDepth 100000 in
set_option maxHeartbeats 4000000 in
theorem empty_any (r : Rb) (a : Option Addr) (c : Nat) (w : World) (hx : Strs w a r.slots) (hc : r.slots.length ≤ c) (hl : r.slots.length ≤ 1000000) :
    Calls Try.prog 24 #[r.val a c] w fun e w' => e = .returned (.tuple #[.int .i64 (emptyOf r.slots).1, .bool (emptyOf r.slots).2]) ∧ Below w.heap.size w w' := by
  have hb1 : Below w.heap.size w (w.alloc (.cells #[.int .i64 r.pos, .bool r.failed, .slice a r.slots.length c, .string r.port, .string r.hand] 26)) := below_alloc (Below.refl _ _) _
  have X := Lib.hid (index_any r.slots a c E0 _ (hx.below hb1) hc hl)
  unfold Rb.val
  unfold E0 at X
  go_enter Try.func24, Try.ntmps24
  go_wp2_with fail
  refine X.out.mono ?_
  rintro e w1 ⟨i, rfl, hi, rfl⟩
  rcases hi with ⟨k, rfl, hk, h1, h2⟩ | ⟨rfl, h2⟩
  · have HV := Lib.hid (emptyOf_at hk h2 h1)
    clear h1 h2
    go_wp2
    go_ret2
    exact ⟨by rw [HV.out]; rfl, hb1⟩
  · have HV := Lib.hid (emptyOf_none h2)
    clear h2
    go_wp2
    go_ret2
    exact ⟨by rw [HV.out]; rfl, hb1⟩
end Go.Proofs.Ytpnkaoigpefmiaa
