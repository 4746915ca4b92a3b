/- The laws' helpers: count, held, few. -/
import Derived.Test.YtpnkaoigpefmiaaR39
namespace Go.Proofs.Ytpnkaoigpefmiaa
open Go.RowKit
set_option linter.unusedVariables false
set_option linter.unusedSimpArgs false

/-- How often a barcode occurs. -/
def cnt (ss : List ByteArray) (b : ByteArray) : Nat := (ss.filter fun s => decide (s = b)).length
theorem cnt_le (ss : List ByteArray) (b : ByteArray) : cnt ss b ≤ ss.length := List.length_filter_le _ _
theorem cnt_take (ss : List ByteArray) (b : ByteArray) {k : Nat} (h : k < ss.length) : cnt (ss.take (k + 1)) b = cnt (ss.take k) b + if ss[k] = b then 1 else 0 := by
  unfold cnt
  rw [List.take_succ_eq_append_getElem h, List.filter_append, List.length_append]
  congr 1
  by_cases e : ss[k] = b <;> simp [e]
set_option maxRecDepth 100000 in
set_option maxHeartbeats 4000000 in
theorem count_any (ss : List ByteArray) (a : Option Addr) (c : Nat) (b : ByteArray) (w : World) (hx : Strs w a ss) (hc : ss.length ≤ c) (hl : ss.length ≤ 1000000) :
    Calls Try.prog 19 #[.slice a ss.length c, .string b] w fun e w' => e = .returned (.int .i64 (cnt ss b)) ∧ w' = w := by
  go_enter Try.func19, Try.ntmps19
  go_wp2
  go_loopw [5, 6] (fun n i wr => ∃ k : Nat, i = .int .i64 k ∧ k ≤ ss.length ∧ n = .int .i64 (cnt (ss.take k) b) ∧ wr = w) (fun _ i _ => ss.length - (intOf i).toNat)
  case atStart => exact ⟨0, rfl, by omega, by simp [cnt], rfl⟩
  case round =>
    obtain ⟨k, rfl, hk, rfl, rfl⟩ := hrel
    have hle := cnt_le (ss.take k) b
    have hle2 : (ss.take k).length ≤ k := List.length_take_le _ _
    by_cases h : k < ss.length
    · obtain ⟨x, rfl, hcell⟩ := hx.at h
      have hct := cnt_take ss b h
      by_cases he : ss[k] = b
      · rw [if_pos he] at hct
        rw [he] at hcell
        have hq := eq_str (rfl : b = b)
        have HT := Lib.hid hct
        clear he hct
        generalize cnt (ss.take k) b = m at *
        have hm : m ≤ 1000000 := by omega
        clear hle hle2
        go_wp2
        go_roundw
        case rel => exact ⟨k + 1, by go_num, by omega, by rw [HT.out]; go_num, trivial⟩
        case measure => simp [intOf]; omega
      · rw [if_neg he] at hct
        have hes := ne_str he
        generalize hs : ss[k] = s at *
        have HT := Lib.hid hct
        clear he hct hs
        generalize cnt (ss.take k) b = m at *
        clear hle hle2
        go_wp2
        go_roundw
        case rel => exact ⟨k + 1, by go_num, by omega, by rw [HT.out]; rfl, trivial⟩
        case measure => simp [intOf]; omega
    · have HV : Hid (ss.take k = ss) := Lib.hid (List.take_of_length_le (by omega))
      go_wp2
      go_ret
      exact ⟨by rw [HV.out]; rfl, rfl⟩
end Go.Proofs.Ytpnkaoigpefmiaa
