/- The model: in, sound, rail, Travel, Farthest, in the program and in the reference. -/
import Derived.Test.YtpnkaoigpefmiaaC
namespace Go.Proofs.Ytpnkaoigpefmiaa
open Go.RowKit
set_option linter.unusedVariables false
set_option linter.unusedSimpArgs false

structure Md where
  slots : Int
  drives : Int
  driveAt : Int
  portAt : Int
  move : Int
  pick : Int
  put : Int
def Md.val (m : Md) : Value := .agg #[.int .i64 m.slots, .int .i64 m.drives, .int .i64 m.driveAt, .int .i64 m.portAt, .int .i64 m.move, .int .i64 m.pick, .int .i64 m.put]
def mok (m : Md) : Prop := (1 ≤ m.slots ∧ m.slots ≤ 64) ∧ (1 ≤ m.drives ∧ m.drives ≤ 8) ∧ (0 ≤ m.driveAt ∧ m.driveAt ≤ 1000) ∧ (0 ≤ m.portAt ∧ m.portAt ≤ 1000) ∧ (0 ≤ m.move ∧ m.move ≤ 1000000) ∧ (0 ≤ m.pick ∧ m.pick ≤ 1000000) ∧ (0 ≤ m.put ∧ m.put ≤ 1000000)
instance (m : Md) : Decidable (mok m) := by unfold mok; infer_instance
def railOf (m : Md) : Int := max (max (m.slots - 1) (m.driveAt + m.drives - 1)) m.portAt
theorem railOf_le {m : Md} (h : mok m) : 0 ≤ railOf m ∧ railOf m ≤ 2000 := by unfold mok at h; unfold railOf; omega

theorem in39_true (n lo hi : Int) (w : World) (h : lo ≤ n ∧ n ≤ hi) : Calls Try.prog 39 #[.int .i64 n, .int .i64 lo, .int .i64 hi] w fun e w' => e = .returned (.bool true) ∧ w' = w := by
  have d1 : decide (n ≥ lo) = true := decide_eq_true h.1
  have d2 : decide (n ≤ hi) = true := decide_eq_true h.2
  clear h
  go_enter Try.func39, Try.ntmps39
  go_wp2
  go_ret
  exact ⟨rfl, rfl⟩
theorem in39_false (n lo hi : Int) (w : World) (h : ¬ (lo ≤ n ∧ n ≤ hi)) : Calls Try.prog 39 #[.int .i64 n, .int .i64 lo, .int .i64 hi] w fun e w' => e = .returned (.bool false) ∧ w' = w := by
  by_cases h1 : lo ≤ n
  · have d1 : decide (n ≥ lo) = true := decide_eq_true h1
    have d2 : decide (n ≤ hi) = false := decide_eq_false (by omega)
    clear h h1
    go_enter Try.func39, Try.ntmps39
    go_wp2
    go_ret
    exact ⟨rfl, rfl⟩
  · have d1 : decide (n ≥ lo) = false := decide_eq_false h1
    clear h h1
    go_enter Try.func39, Try.ntmps39
    go_wp2
    go_ret
    exact ⟨rfl, rfl⟩

theorem in44_true (n lo hi : Int) (w : World) (h : lo ≤ n ∧ n ≤ hi) : Calls Try.prog 44 #[.int .i64 n, .int .i64 lo, .int .i64 hi] w fun e w' => e = .returned (.bool true) ∧ w' = w := by
  have d1 : decide (n ≥ lo) = true := decide_eq_true h.1
  have d2 : decide (n ≤ hi) = true := decide_eq_true h.2
  clear h
  go_enter Try.func44, Try.ntmps44
  go_wp2
  go_ret
  exact ⟨rfl, rfl⟩
theorem in44_false (n lo hi : Int) (w : World) (h : ¬ (lo ≤ n ∧ n ≤ hi)) : Calls Try.prog 44 #[.int .i64 n, .int .i64 lo, .int .i64 hi] w fun e w' => e = .returned (.bool false) ∧ w' = w := by
  by_cases h1 : lo ≤ n
  · have d1 : decide (n ≥ lo) = true := decide_eq_true h1
    have d2 : decide (n ≤ hi) = false := decide_eq_false (by omega)
    clear h h1
    go_enter Try.func44, Try.ntmps44
    go_wp2
    go_ret
    exact ⟨rfl, rfl⟩
  · have d1 : decide (n ≥ lo) = false := decide_eq_false h1
    clear h h1
    go_enter Try.func44, Try.ntmps44
    go_wp2
    go_ret
    exact ⟨rfl, rfl⟩

set_option maxHeartbeats 2000000 in
theorem sound_true (m : Md) (w : World) (h : mok m) : Calls Try.prog 36 #[m.val] w fun e w' => e = .returned (.bool true) ∧ Below w.heap.size w w' := by
  obtain ⟨h0, h1, h2, h3, h4, h5, h6⟩ := h
  obtain ⟨f0, f1, f2, f3, f4, f5, f6⟩ := m
  simp only at h0 h1 h2 h3 h4 h5 h6
  unfold Md.val
  simp only
  go_enter Try.func36, Try.ntmps36
  go_wp2_with fail
  refine (in44_true _ 1 64 _ h0).mono ?_
  rintro e w1 ⟨rfl, rfl⟩
  go_wp2_with fail
  refine (in44_true _ 1 8 _ h1).mono ?_
  rintro e w1 ⟨rfl, rfl⟩
  go_wp2_with fail
  refine (in44_true _ 0 1000 _ h2).mono ?_
  rintro e w1 ⟨rfl, rfl⟩
  go_wp2_with fail
  refine (in44_true _ 0 1000 _ h3).mono ?_
  rintro e w1 ⟨rfl, rfl⟩
  go_wp2_with fail
  refine (in44_true _ 0 1000000 _ h4).mono ?_
  rintro e w1 ⟨rfl, rfl⟩
  go_wp2_with fail
  refine (in44_true _ 0 1000000 _ h5).mono ?_
  rintro e w1 ⟨rfl, rfl⟩
  go_wp2_with fail
  refine (in44_true _ 0 1000000 _ h6).mono ?_
  rintro e w1 ⟨rfl, rfl⟩
  go_wp2
  go_ret
  exact ⟨rfl, below_alloc (Below.refl _ _) _⟩
set_option maxHeartbeats 2000000 in
theorem sound_false (m : Md) (w : World) (h : ¬ mok m) : Calls Try.prog 36 #[m.val] w fun e w' => e = .returned (.bool false) ∧ Below w.heap.size w w' := by
  unfold mok at h
  obtain ⟨f0, f1, f2, f3, f4, f5, f6⟩ := m
  simp only at h
  unfold Md.val
  simp only
  by_cases h0 : 1 ≤ f0 ∧ f0 ≤ 64
  case neg =>
    clear h
    go_enter Try.func36, Try.ntmps36
    go_wp2_with fail
    refine (in44_false _ 1 64 _ h0).mono ?_
    rintro e w1 ⟨rfl, rfl⟩
    go_wp2
    go_ret
    exact ⟨rfl, below_alloc (Below.refl _ _) _⟩
  by_cases h1 : 1 ≤ f1 ∧ f1 ≤ 8
  case neg =>
    clear h
    go_enter Try.func36, Try.ntmps36
    go_wp2_with fail
    refine (in44_true _ 1 64 _ h0).mono ?_
    rintro e w1 ⟨rfl, rfl⟩
    go_wp2_with fail
    refine (in44_false _ 1 8 _ h1).mono ?_
    rintro e w1 ⟨rfl, rfl⟩
    go_wp2
    go_ret
    exact ⟨rfl, below_alloc (Below.refl _ _) _⟩
  by_cases h2 : 0 ≤ f2 ∧ f2 ≤ 1000
  case neg =>
    clear h
    go_enter Try.func36, Try.ntmps36
    go_wp2_with fail
    refine (in44_true _ 1 64 _ h0).mono ?_
    rintro e w1 ⟨rfl, rfl⟩
    go_wp2_with fail
    refine (in44_true _ 1 8 _ h1).mono ?_
    rintro e w1 ⟨rfl, rfl⟩
    go_wp2_with fail
    refine (in44_false _ 0 1000 _ h2).mono ?_
    rintro e w1 ⟨rfl, rfl⟩
    go_wp2
    go_ret
    exact ⟨rfl, below_alloc (Below.refl _ _) _⟩
  by_cases h3 : 0 ≤ f3 ∧ f3 ≤ 1000
  case neg =>
    clear h
    go_enter Try.func36, Try.ntmps36
    go_wp2_with fail
    refine (in44_true _ 1 64 _ h0).mono ?_
    rintro e w1 ⟨rfl, rfl⟩
    go_wp2_with fail
    refine (in44_true _ 1 8 _ h1).mono ?_
    rintro e w1 ⟨rfl, rfl⟩
    go_wp2_with fail
    refine (in44_true _ 0 1000 _ h2).mono ?_
    rintro e w1 ⟨rfl, rfl⟩
    go_wp2_with fail
    refine (in44_false _ 0 1000 _ h3).mono ?_
    rintro e w1 ⟨rfl, rfl⟩
    go_wp2
    go_ret
    exact ⟨rfl, below_alloc (Below.refl _ _) _⟩
  by_cases h4 : 0 ≤ f4 ∧ f4 ≤ 1000000
  case neg =>
    clear h
    go_enter Try.func36, Try.ntmps36
    go_wp2_with fail
    refine (in44_true _ 1 64 _ h0).mono ?_
    rintro e w1 ⟨rfl, rfl⟩
    go_wp2_with fail
    refine (in44_true _ 1 8 _ h1).mono ?_
    rintro e w1 ⟨rfl, rfl⟩
    go_wp2_with fail
    refine (in44_true _ 0 1000 _ h2).mono ?_
    rintro e w1 ⟨rfl, rfl⟩
    go_wp2_with fail
    refine (in44_true _ 0 1000 _ h3).mono ?_
    rintro e w1 ⟨rfl, rfl⟩
    go_wp2_with fail
    refine (in44_false _ 0 1000000 _ h4).mono ?_
    rintro e w1 ⟨rfl, rfl⟩
    go_wp2
    go_ret
    exact ⟨rfl, below_alloc (Below.refl _ _) _⟩
  by_cases h5 : 0 ≤ f5 ∧ f5 ≤ 1000000
  case neg =>
    clear h
    go_enter Try.func36, Try.ntmps36
    go_wp2_with fail
    refine (in44_true _ 1 64 _ h0).mono ?_
    rintro e w1 ⟨rfl, rfl⟩
    go_wp2_with fail
    refine (in44_true _ 1 8 _ h1).mono ?_
    rintro e w1 ⟨rfl, rfl⟩
    go_wp2_with fail
    refine (in44_true _ 0 1000 _ h2).mono ?_
    rintro e w1 ⟨rfl, rfl⟩
    go_wp2_with fail
    refine (in44_true _ 0 1000 _ h3).mono ?_
    rintro e w1 ⟨rfl, rfl⟩
    go_wp2_with fail
    refine (in44_true _ 0 1000000 _ h4).mono ?_
    rintro e w1 ⟨rfl, rfl⟩
    go_wp2_with fail
    refine (in44_false _ 0 1000000 _ h5).mono ?_
    rintro e w1 ⟨rfl, rfl⟩
    go_wp2
    go_ret
    exact ⟨rfl, below_alloc (Below.refl _ _) _⟩
  by_cases h6 : 0 ≤ f6 ∧ f6 ≤ 1000000
  case neg =>
    clear h
    go_enter Try.func36, Try.ntmps36
    go_wp2_with fail
    refine (in44_true _ 1 64 _ h0).mono ?_
    rintro e w1 ⟨rfl, rfl⟩
    go_wp2_with fail
    refine (in44_true _ 1 8 _ h1).mono ?_
    rintro e w1 ⟨rfl, rfl⟩
    go_wp2_with fail
    refine (in44_true _ 0 1000 _ h2).mono ?_
    rintro e w1 ⟨rfl, rfl⟩
    go_wp2_with fail
    refine (in44_true _ 0 1000 _ h3).mono ?_
    rintro e w1 ⟨rfl, rfl⟩
    go_wp2_with fail
    refine (in44_true _ 0 1000000 _ h4).mono ?_
    rintro e w1 ⟨rfl, rfl⟩
    go_wp2_with fail
    refine (in44_true _ 0 1000000 _ h5).mono ?_
    rintro e w1 ⟨rfl, rfl⟩
    go_wp2_with fail
    refine (in44_false _ 0 1000000 _ h6).mono ?_
    rintro e w1 ⟨rfl, rfl⟩
    go_wp2
    go_ret
    exact ⟨rfl, below_alloc (Below.refl _ _) _⟩
  exact absurd ⟨h0, h1, h2, h3, h4, h5, h6⟩ h

set_option maxHeartbeats 2000000 in
theorem rmodel_true (m : Md) (w : World) (h : mok m) : Calls Try.prog 41 #[m.val] w fun e w' => e = .returned (.bool true) ∧ Below w.heap.size w w' := by
  obtain ⟨h0, h1, h2, h3, h4, h5, h6⟩ := h
  obtain ⟨f0, f1, f2, f3, f4, f5, f6⟩ := m
  simp only at h0 h1 h2 h3 h4 h5 h6
  unfold Md.val
  simp only
  go_enter Try.func41, Try.ntmps41
  go_wp2_with fail
  refine (in39_true _ 1 64 _ h0).mono ?_
  rintro e w1 ⟨rfl, rfl⟩
  go_wp2_with fail
  refine (in39_true _ 1 8 _ h1).mono ?_
  rintro e w1 ⟨rfl, rfl⟩
  go_wp2_with fail
  refine (in39_true _ 0 1000 _ h2).mono ?_
  rintro e w1 ⟨rfl, rfl⟩
  go_wp2_with fail
  refine (in39_true _ 0 1000 _ h3).mono ?_
  rintro e w1 ⟨rfl, rfl⟩
  go_wp2_with fail
  refine (in39_true _ 0 1000000 _ h4).mono ?_
  rintro e w1 ⟨rfl, rfl⟩
  go_wp2_with fail
  refine (in39_true _ 0 1000000 _ h5).mono ?_
  rintro e w1 ⟨rfl, rfl⟩
  go_wp2_with fail
  refine (in39_true _ 0 1000000 _ h6).mono ?_
  rintro e w1 ⟨rfl, rfl⟩
  go_wp2
  go_ret
  exact ⟨rfl, below_alloc (Below.refl _ _) _⟩
set_option maxHeartbeats 2000000 in
theorem rmodel_false (m : Md) (w : World) (h : ¬ mok m) : Calls Try.prog 41 #[m.val] w fun e w' => e = .returned (.bool false) ∧ Below w.heap.size w w' := by
  unfold mok at h
  obtain ⟨f0, f1, f2, f3, f4, f5, f6⟩ := m
  simp only at h
  unfold Md.val
  simp only
  by_cases h0 : 1 ≤ f0 ∧ f0 ≤ 64
  case neg =>
    clear h
    go_enter Try.func41, Try.ntmps41
    go_wp2_with fail
    refine (in39_false _ 1 64 _ h0).mono ?_
    rintro e w1 ⟨rfl, rfl⟩
    go_wp2
    go_ret
    exact ⟨rfl, below_alloc (Below.refl _ _) _⟩
  by_cases h1 : 1 ≤ f1 ∧ f1 ≤ 8
  case neg =>
    clear h
    go_enter Try.func41, Try.ntmps41
    go_wp2_with fail
    refine (in39_true _ 1 64 _ h0).mono ?_
    rintro e w1 ⟨rfl, rfl⟩
    go_wp2_with fail
    refine (in39_false _ 1 8 _ h1).mono ?_
    rintro e w1 ⟨rfl, rfl⟩
    go_wp2
    go_ret
    exact ⟨rfl, below_alloc (Below.refl _ _) _⟩
  by_cases h2 : 0 ≤ f2 ∧ f2 ≤ 1000
  case neg =>
    clear h
    go_enter Try.func41, Try.ntmps41
    go_wp2_with fail
    refine (in39_true _ 1 64 _ h0).mono ?_
    rintro e w1 ⟨rfl, rfl⟩
    go_wp2_with fail
    refine (in39_true _ 1 8 _ h1).mono ?_
    rintro e w1 ⟨rfl, rfl⟩
    go_wp2_with fail
    refine (in39_false _ 0 1000 _ h2).mono ?_
    rintro e w1 ⟨rfl, rfl⟩
    go_wp2
    go_ret
    exact ⟨rfl, below_alloc (Below.refl _ _) _⟩
  by_cases h3 : 0 ≤ f3 ∧ f3 ≤ 1000
  case neg =>
    clear h
    go_enter Try.func41, Try.ntmps41
    go_wp2_with fail
    refine (in39_true _ 1 64 _ h0).mono ?_
    rintro e w1 ⟨rfl, rfl⟩
    go_wp2_with fail
    refine (in39_true _ 1 8 _ h1).mono ?_
    rintro e w1 ⟨rfl, rfl⟩
    go_wp2_with fail
    refine (in39_true _ 0 1000 _ h2).mono ?_
    rintro e w1 ⟨rfl, rfl⟩
    go_wp2_with fail
    refine (in39_false _ 0 1000 _ h3).mono ?_
    rintro e w1 ⟨rfl, rfl⟩
    go_wp2
    go_ret
    exact ⟨rfl, below_alloc (Below.refl _ _) _⟩
  by_cases h4 : 0 ≤ f4 ∧ f4 ≤ 1000000
  case neg =>
    clear h
    go_enter Try.func41, Try.ntmps41
    go_wp2_with fail
    refine (in39_true _ 1 64 _ h0).mono ?_
    rintro e w1 ⟨rfl, rfl⟩
    go_wp2_with fail
    refine (in39_true _ 1 8 _ h1).mono ?_
    rintro e w1 ⟨rfl, rfl⟩
    go_wp2_with fail
    refine (in39_true _ 0 1000 _ h2).mono ?_
    rintro e w1 ⟨rfl, rfl⟩
    go_wp2_with fail
    refine (in39_true _ 0 1000 _ h3).mono ?_
    rintro e w1 ⟨rfl, rfl⟩
    go_wp2_with fail
    refine (in39_false _ 0 1000000 _ h4).mono ?_
    rintro e w1 ⟨rfl, rfl⟩
    go_wp2
    go_ret
    exact ⟨rfl, below_alloc (Below.refl _ _) _⟩
  by_cases h5 : 0 ≤ f5 ∧ f5 ≤ 1000000
  case neg =>
    clear h
    go_enter Try.func41, Try.ntmps41
    go_wp2_with fail
    refine (in39_true _ 1 64 _ h0).mono ?_
    rintro e w1 ⟨rfl, rfl⟩
    go_wp2_with fail
    refine (in39_true _ 1 8 _ h1).mono ?_
    rintro e w1 ⟨rfl, rfl⟩
    go_wp2_with fail
    refine (in39_true _ 0 1000 _ h2).mono ?_
    rintro e w1 ⟨rfl, rfl⟩
    go_wp2_with fail
    refine (in39_true _ 0 1000 _ h3).mono ?_
    rintro e w1 ⟨rfl, rfl⟩
    go_wp2_with fail
    refine (in39_true _ 0 1000000 _ h4).mono ?_
    rintro e w1 ⟨rfl, rfl⟩
    go_wp2_with fail
    refine (in39_false _ 0 1000000 _ h5).mono ?_
    rintro e w1 ⟨rfl, rfl⟩
    go_wp2
    go_ret
    exact ⟨rfl, below_alloc (Below.refl _ _) _⟩
  by_cases h6 : 0 ≤ f6 ∧ f6 ≤ 1000000
  case neg =>
    clear h
    go_enter Try.func41, Try.ntmps41
    go_wp2_with fail
    refine (in39_true _ 1 64 _ h0).mono ?_
    rintro e w1 ⟨rfl, rfl⟩
    go_wp2_with fail
    refine (in39_true _ 1 8 _ h1).mono ?_
    rintro e w1 ⟨rfl, rfl⟩
    go_wp2_with fail
    refine (in39_true _ 0 1000 _ h2).mono ?_
    rintro e w1 ⟨rfl, rfl⟩
    go_wp2_with fail
    refine (in39_true _ 0 1000 _ h3).mono ?_
    rintro e w1 ⟨rfl, rfl⟩
    go_wp2_with fail
    refine (in39_true _ 0 1000000 _ h4).mono ?_
    rintro e w1 ⟨rfl, rfl⟩
    go_wp2_with fail
    refine (in39_true _ 0 1000000 _ h5).mono ?_
    rintro e w1 ⟨rfl, rfl⟩
    go_wp2_with fail
    refine (in39_false _ 0 1000000 _ h6).mono ?_
    rintro e w1 ⟨rfl, rfl⟩
    go_wp2
    go_ret
    exact ⟨rfl, below_alloc (Below.refl _ _) _⟩
  exact absurd ⟨h0, h1, h2, h3, h4, h5, h6⟩ h

theorem rail_any (m : Md) (w : World) (h : mok m) : Calls Try.prog 37 #[m.val] w fun e w' => e = .returned (.int .i64 (railOf m)) ∧ Below w.heap.size w w' := by
  unfold mok at h
  unfold railOf
  obtain ⟨f0, f1, f2, f3, f4, f5, f6⟩ := m
  unfold Md.val
  simp only at h ⊢
  go_enter Try.func37, Try.ntmps37
  go_wp2
  all_goals (go_ret; exact ⟨ret_int (by omega), below_alloc (Below.refl _ _) _⟩)

theorem rrail_any (m : Md) (w : World) (h : mok m) : Calls Try.prog 42 #[m.val] w fun e w' => e = .returned (.int .i64 (railOf m)) ∧ Below w.heap.size w w' := by
  unfold mok at h
  unfold railOf
  obtain ⟨f0, f1, f2, f3, f4, f5, f6⟩ := m
  unfold Md.val
  simp only at h ⊢
  go_enter Try.func42, Try.ntmps42
  go_wp2
  all_goals (go_ret; exact ⟨ret_int (by omega), below_alloc (Below.refl _ _) _⟩)
end Go.Proofs.Ytpnkaoigpefmiaa
