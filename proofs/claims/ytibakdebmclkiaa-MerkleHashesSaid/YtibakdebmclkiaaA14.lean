/- The statement MerkleGrows over any memory: the links of beginnings form a chain. -/
import Derived.Test.YtibakdebmclkiaaA13
namespace Go.Proofs.Ytibakdebmclkiaa
open Go.RowKit
set_option linter.unusedVariables false
set_option linter.unusedSimpArgs false

set_option maxHeartbeats 4000000 in
theorem grows_no (m n : Int) (a : Option Addr) (c : Nat) (xs : List Int) (w : World) (h : 200 < xs.length ∨ m < 1 ∨ n < m ∨ xs.length < n) :
    Calls Try.prog 9 #[.slice a xs.length c, .int .i64 m, .int .i64 n] w fun e w' => e = .returned (.bool true) ∧ Below w.heap.size w w' := by
  by_cases h1 : 200 < xs.length
  · have d1 : decide ((xs.length : Int) > 200) = true := decide_eq_true (by omega)
    go_enter Try.func9, Try.ntmps9
    go_wp2_with (go_at_call 10; refine (awake_any _).mono ?_; rintro e w1 ⟨rfl, hb⟩)
    go_ret
    exact ⟨rfl, hb⟩
  · have d1 : decide ((xs.length : Int) > 200) = false := decide_eq_false (by omega)
    by_cases h2 : m < 1
    · have d2 : decide (m < 1) = true := decide_eq_true h2
      go_enter Try.func9, Try.ntmps9
      go_wp2_with (go_at_call 10; refine (awake_any _).mono ?_; rintro e w1 ⟨rfl, hb⟩)
      go_ret
      exact ⟨rfl, hb⟩
    · have d2 : decide (m < 1) = false := decide_eq_false h2
      by_cases h3 : n < m
      · have d3 : decide (n < m) = true := decide_eq_true h3
        go_enter Try.func9, Try.ntmps9
        go_wp2_with (go_at_call 10; refine (awake_any _).mono ?_; rintro e w1 ⟨rfl, hb⟩)
        go_ret
        exact ⟨rfl, hb⟩
      · have d3 : decide (n < m) = false := decide_eq_false h3
        have d4 : decide (n > (xs.length : Int)) = true := decide_eq_true (by omega)
        go_enter Try.func9, Try.ntmps9
        go_wp2_with (go_at_call 10; refine (awake_any _).mono ?_; rintro e w1 ⟨rfl, hb⟩)
        go_ret
        exact ⟨rfl, hb⟩

set_option maxHeartbeats 8000000 in
theorem grows_yes (m n : Nat) (a : Option Addr) (c : Nat) (xs : List Int) (w : World) (hx : Ints .u64 w a xs) (hc : xs.length ≤ c) (h0 : xs.length ≤ 200) (h1 : 1 ≤ m) (h2 : m ≤ n) (h3 : n ≤ xs.length) :
    Calls Try.prog 9 #[.slice a xs.length c, .int .i64 m, .int .i64 n] w fun e w' => e = .returned (.bool true) ∧ Below w.heap.size w w' := by
  have d1 : decide ((xs.length : Int) > 200) = false := decide_eq_false (by omega)
  have d2 : decide ((m : Int) < 1) = false := decide_eq_false (by omega)
  have d3 : decide (n < m) = false := decide_eq_false (by omega)
  have d3' : decide ((n : Int) < (m : Int)) = false := decide_eq_false (by omega)
  have d4 : decide ((n : Int) > (xs.length : Int)) = false := decide_eq_false (by omega)
  have d4' : decide (n > xs.length) = false := decide_eq_false (by omega)
  obtain ⟨i0, hi0, _⟩ := info_parts info24
  have hcm := fun W => take_run (P := Try.prog) 22 24 Try.underlying22 hi0 .i64 a xs.length c m (by omega) W
  have hcn := fun W => take_run (P := Try.prog) 22 24 Try.underlying22 hi0 .i64 a xs.length c n (by omega) W
  have lm : (xs.take m).length = m := by rw [List.length_take]; omega
  have ln : (xs.take n).length = n := by rw [List.length_take]; omega
  have htt : (xs.take n).take m = xs.take m := by rw [List.take_take, Nat.min_eq_left h2]
  have P1 := prefix_yes m a c (xs.take n) w (by omega) (by omega) (hx.take n) (by omega) (by omega)
  have P2 := fun wx (hb : Below w.heap.size w wx) => prefix_yes n a c xs wx (by omega) (by omega) (hx.below hb) hc (by omega)
  have P3 := fun wx (hb : Below w.heap.size w wx) => prefix_yes m a c xs wx (by omega) (by omega) (hx.below hb) hc (by omega)
  have e1 := extends_link (xs.take n) m h1 (by omega)
  have e2 := extends_link xs n (by omega) h3
  have e3 := extends_link xs m h1 (by omega)
  have b1 := linkOf_length _ (xs.take n) m true (Nat.le_refl _)
  have b2 := linkOf_length _ xs n true (Nat.le_refl _)
  have b3 := linkOf_length _ xs m true (Nat.le_refl _)
  rw [htt] at e1
  rw [ln] at P1 e1 b1
  rw [Int.toNat_natCast] at P1 P2 P3
  have R1 : ∀ wx, Below w.heap.size w wx → Calls Try.prog 11 #[.slice a m c] wx fun e w' => e = .returned (.int .u64 (rootOf (xs.take m))) ∧ Below wx.heap.size wx w' := by
    intro wx hb
    have := root_any _ a c (xs.take m) wx (Nat.le_refl _) ((hx.below hb).take m) (by omega) (by omega)
    rw [lm] at this
    exact this
  have R2 : ∀ wx, Below w.heap.size w wx → Calls Try.prog 11 #[.slice a n c] wx fun e w' => e = .returned (.int .u64 (rootOf (xs.take n))) ∧ Below wx.heap.size wx w' := by
    intro wx hb
    have := root_any _ a c (xs.take n) wx (Nat.le_refl _) ((hx.below hb).take n) (by omega) (by omega)
    rw [ln] at this
    exact this
  have R3 : ∀ wx, Below w.heap.size w wx → Calls Try.prog 11 #[.slice a xs.length c] wx fun e w' => e = .returned (.int .u64 (rootOf xs)) ∧ Below wx.heap.size wx w' :=
    fun wx hb => root_any _ a c xs wx (Nat.le_refl _) (hx.below hb) hc (by omega)
  generalize linkOf (xs.take n) m true = p1 at *
  generalize linkOf xs n true = p2 at *
  generalize linkOf xs m true = p3 at *
  generalize rootOf (xs.take m) = r1 at *
  generalize rootOf (xs.take n) = r2 at *
  generalize rootOf xs = r3 at *
  have PP1 := Lib.hid P1
  have PP2 := Lib.hid P2
  have PP3 := Lib.hid P3
  have E1 := Lib.hid e1
  have E2 := Lib.hid e2
  have E3 := Lib.hid e3
  have RR1 := Lib.hid R1
  have RR2 := Lib.hid R2
  have RR3 := Lib.hid R3
  clear P1 P2 P3 e1 e2 e3 R1 R2 R3 lm ln htt hx
  go_enter Try.func9, Try.ntmps9
  go_wp2_with fail
  refine PP1.out.mono ?_
  rintro e w1 ⟨v1, rfl, ho1, hb1⟩
  go_wp2_with fail
  refine (PP2.out _ hb1).mono ?_
  rintro e w2 ⟨v2, rfl, ho2, hb2⟩
  have hb2' := Below.next hb1 hb2
  go_wp2_with fail
  refine (PP3.out _ hb2').mono ?_
  rintro e w3 ⟨v3, rfl, ho3, hb3⟩
  have hb3' := Below.next hb2' hb3
  obtain ⟨a1, c1, rfl, hp1⟩ := ints_own (ownsRow_below (ownsRow_below ho1 hb2) hb3)
  obtain ⟨a2, c2, rfl, hp2⟩ := ints_own (ownsRow_below ho2 hb3)
  obtain ⟨a3, c3, rfl, hp3⟩ := ints_own ho3
  have q1 := own_cap ho1
  have q2 := own_cap ho2
  have q3 := own_cap ho3
  clear ho1 ho2 ho3
  have I1 : Hid (∀ wx, Below w3.heap.size w3 wx → Calls Try.prog 11 #[.slice a m c] wx fun e w' => e = .returned (.int .u64 r1) ∧ Below w3.heap.size w3 w') :=
    fun wx hb => (RR1.out wx (Below.next hb3' hb)).mono fun e w' h => ⟨h.1, Below.next hb h.2⟩
  have I2 : Hid (∀ wx, Below w3.heap.size w3 wx → Calls Try.prog 11 #[.slice a n c] wx fun e w' => e = .returned (.int .u64 r2) ∧ Below w3.heap.size w3 w') :=
    fun wx hb => (RR2.out wx (Below.next hb3' hb)).mono fun e w' h => ⟨h.1, Below.next hb h.2⟩
  have I3 : Hid (∀ wx, Below w3.heap.size w3 wx → Calls Try.prog 11 #[.slice a xs.length c] wx fun e w' => e = .returned (.int .u64 r3) ∧ Below w3.heap.size w3 w') :=
    fun wx hb => (RR3.out wx (Below.next hb3' hb)).mono fun e w' h => ⟨h.1, Below.next hb h.2⟩
  have X1 : Hid (∀ wx, Below w3.heap.size w3 wx → Calls Try.prog 18 #[.int .u64 r1, .int .u64 r2, .int .i64 m, .int .i64 n, .slice a1 p1.length c1] wx fun e w' => e = .returned (.bool true) ∧ Below w3.heap.size w3 w') := by
    intro wx hb
    have := extends_any r1 r2 m n a1 c1 p1 wx (by omega) (hp1.below hb) q1 (by omega)
    rw [E1.out] at this
    exact this.mono fun e w' h => ⟨h.1, Below.next hb h.2⟩
  have X2 : Hid (∀ wx, Below w3.heap.size w3 wx → Calls Try.prog 18 #[.int .u64 r2, .int .u64 r3, .int .i64 n, .int .i64 xs.length, .slice a2 p2.length c2] wx fun e w' => e = .returned (.bool true) ∧ Below w3.heap.size w3 w') := by
    intro wx hb
    have := extends_any r2 r3 n xs.length a2 c2 p2 wx (by omega) (hp2.below hb) q2 (by omega)
    rw [E2.out] at this
    exact this.mono fun e w' h => ⟨h.1, Below.next hb h.2⟩
  have X3 : Hid (∀ wx, Below w3.heap.size w3 wx → Calls Try.prog 18 #[.int .u64 r1, .int .u64 r3, .int .i64 m, .int .i64 xs.length, .slice a3 p3.length c3] wx fun e w' => e = .returned (.bool true) ∧ Below w3.heap.size w3 w') := by
    intro wx hb
    have := extends_any r1 r3 m xs.length a3 c3 p3 wx (by omega) (hp3.below hb) q3 (by omega)
    rw [E3.out] at this
    exact this.mono fun e w' h => ⟨h.1, Below.next hb h.2⟩
  clear hp1 hp2 hp3 RR1 RR2 RR3 E1 E2 E3
  go_wp2_with fail
  go_region_held3 (fun wx => Below w3.heap.size w3 wx) (with_reducible first | assumption | exact (Below.refl _ _).drew) (first | (go_at_call 11; (with_reducible refine (I1.out _ ?_).mono ?_); (with_reducible assumption); rintro e w4 ⟨rfl, hb4⟩) | (go_at_call 11; (with_reducible refine (I2.out _ ?_).mono ?_); (with_reducible assumption); rintro e w4 ⟨rfl, hb4⟩) | (go_at_call 11; (with_reducible refine (I3.out _ ?_).mono ?_); (with_reducible assumption); rintro e w4 ⟨rfl, hb4⟩))
  go_wp2_with fail
  refine (X1.out _ (by assumption)).mono ?_
  rintro e w7 ⟨rfl, hb7⟩
  go_wp2_with fail
  refine (X2.out _ hb7).mono ?_
  rintro e w8 ⟨rfl, hb8⟩
  go_wp2_with fail
  refine (X3.out _ hb8).mono ?_
  rintro e w9 ⟨rfl, hb9⟩
  go_wp2_with fail
  refine (awake_any _).mono ?_
  rintro e w10 ⟨rfl, hb10⟩
  go_wp2
  go_ret
  exact ⟨rfl, Below.next hb3' (Below.next hb9 hb10)⟩

theorem grows_law (m n : Int) (a : Option Addr) (c : Nat) (xs : List Int) (w : World) (hx : Ints .u64 w a xs) (hc : xs.length ≤ c) :
    Calls Try.prog 9 #[.slice a xs.length c, .int .i64 m, .int .i64 n] w fun e w' => e = .returned (.bool true) ∧ Below w.heap.size w w' := by
  by_cases h : 200 < xs.length ∨ m < 1 ∨ n < m ∨ xs.length < n
  · exact grows_no m n a c xs w h
  · obtain ⟨m, rfl⟩ := Int.eq_ofNat_of_zero_le (show 0 ≤ m by omega)
    obtain ⟨n, rfl⟩ := Int.eq_ofNat_of_zero_le (show 0 ≤ n by omega)
    exact grows_yes m n a c xs w hx hc (by omega) (by omega) (by omega) (by omega)
end Go.Proofs.Ytibakdebmclkiaa
