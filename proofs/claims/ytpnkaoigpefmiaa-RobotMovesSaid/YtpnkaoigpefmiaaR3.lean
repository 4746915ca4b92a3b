/- Farthest, in the program and in the reference. -/
import Derived.Test.YtpnkaoigpefmiaaR2
namespace Go.Proofs.Ytpnkaoigpefmiaa
open Go.RowKit
set_option linter.unusedVariables false
set_option linter.unusedSimpArgs false
theorem farOf_in (m : Md) : 0 ≤ farOf m ∧ farOf m ≤ 4002000000 := by
  unfold farOf
  split
  · rename_i h
    have hr := railOf_le h
    obtain ⟨h1, h2, h3, h4, h5, h6, h7⟩ := h
    have := mul_in h5.1 h5.2 hr.1 hr.2
    rw [Int.mul_assoc]
    omega
  · omega

set_option maxRecDepth 100000 in
set_option maxHeartbeats 4000000 in
theorem farthest_any (m : Md) (w : World) : Calls Try.prog 17 #[m.val] w fun e w' => e = .returned (.int .i64 (farOf m)) ∧ Below w.heap.size w w' := by
  by_cases hm : mok m
  case neg =>
    rw [farOf, if_neg hm]
    have S := fun wx => Lib.hid (sound_false m wx hm)
    clear hm
    unfold Md.val at *
    go_enter Try.func17, Try.ntmps17
    go_wp2_with fail
    refine (S _).out.mono ?_
    rintro e w1 ⟨rfl, hb1⟩
    have hc1 := Below.next (below_alloc (Below.refl _ _) _) hb1
    go_wp2
    go_ret
    exact ⟨rfl, hc1⟩
  have hr := railOf_le hm
  rw [farOf, if_pos hm]
  have hm2 := hm
  obtain ⟨h1, h2, h3, h4, h5, h6, h7⟩ := hm2
  have S := fun wx => Lib.hid (sound_true m wx hm)
  have R := fun wx => Lib.hid (rail_any m wx hm)
  have hmul := mul_in h5.1 h5.2 hr.1 hr.2
  clear hm
  generalize railOf m = ra at *
  obtain ⟨f0, f1, f2, f3, f4, f5, f6⟩ := m
  simp only at h1 h2 h3 h4 h5 h6 h7 hmul ⊢
  have hass : 2 * f4 * ra = 2 * (f4 * ra) := Int.mul_assoc _ _ _
  have m1 : IntKind.i64.wrap (2 * f4) = 2 * f4 := IntWalk.i64_in _ (by omega)
  have m2 : IntKind.i64.wrap (2 * f4 * ra) = 2 * f4 * ra := IntWalk.i64_in _ (by omega)
  have m3 : IntKind.i64.wrap (2 * f4 * ra + f5) = 2 * f4 * ra + f5 := IntWalk.i64_in _ (by omega)
  have m4 : IntKind.i64.wrap (2 * f4 * ra + f5 + f6) = 2 * f4 * ra + f5 + f6 := IntWalk.i64_in _ (by omega)
  clear hass hmul h1 h2 h3 h4 h5 h6 h7 hr
  unfold Md.val at *
  go_enter Try.func17, Try.ntmps17
  go_wp2_with fail
  refine (S _).out.mono ?_
  rintro e w1 ⟨rfl, hb1⟩
  have hc1 := Below.next (below_alloc (Below.refl _ _) _) hb1
  have M1 := MB.next (MB.start w _ _ _ _ _ _ _) hb1
  clear S hb1
  have K : ∀ wx, Below w1.heap.size w1 wx → Below w1.heap.size w1 wx ∧ wx.cell? ⟨w.heap.size, 0, none⟩ = some (.int .i64 f0) ∧ wx.cell? ⟨w.heap.size, 1, none⟩ = some (.int .i64 f1) ∧ wx.cell? ⟨w.heap.size, 2, none⟩ = some (.int .i64 f2) ∧ wx.cell? ⟨w.heap.size, 3, none⟩ = some (.int .i64 f3) ∧ wx.cell? ⟨w.heap.size, 4, none⟩ = some (.int .i64 f4) ∧ wx.cell? ⟨w.heap.size, 5, none⟩ = some (.int .i64 f5) ∧ wx.cell? ⟨w.heap.size, 6, none⟩ = some (.int .i64 f6) := fun wx hb => by
    have M := M1.next hb
    exact ⟨hb, M.g0, M.g1, M.g2, M.g3, M.g4, M.g5, M.g6⟩
  have I1 : Hid (∀ wx, Below w1.heap.size w1 wx → Calls Try.prog 37 #[.agg #[.int .i64 f0, .int .i64 f1, .int .i64 f2, .int .i64 f3, .int .i64 f4, .int .i64 f5, .int .i64 f6]] wx fun e w' => e = .returned (.int .i64 ra) ∧ Below w1.heap.size w1 w') := Lib.hid fun wx hb => (R wx).out.mono fun e w' h => ⟨h.1, Below.next hb h.2⟩
  have S0 := K w1.drew (Below.refl _ _).drew
  have KK := Lib.hid K
  clear K R M1
  go_wp2
  go_region_held3 (fun wx => Below w1.heap.size w1 wx ∧ wx.cell? ⟨w.heap.size, 0, none⟩ = some (.int .i64 f0) ∧ wx.cell? ⟨w.heap.size, 1, none⟩ = some (.int .i64 f1) ∧ wx.cell? ⟨w.heap.size, 2, none⟩ = some (.int .i64 f2) ∧ wx.cell? ⟨w.heap.size, 3, none⟩ = some (.int .i64 f3) ∧ wx.cell? ⟨w.heap.size, 4, none⟩ = some (.int .i64 f4) ∧ wx.cell? ⟨w.heap.size, 5, none⟩ = some (.int .i64 f5) ∧ wx.cell? ⟨w.heap.size, 6, none⟩ = some (.int .i64 f6)) (with_reducible first | assumption | exact S0 | exact KK.out _ (by assumption)) (first | (go_at_call 37; (with_reducible refine (I1.out _ ?_).mono ?_); (go_split_ands; with_reducible assumption); rintro e w2 ⟨rfl, hb2⟩))
  have hc2 := Below.next hc1 hb2
  go_wp2
  go_ret
  exact ⟨rfl, hc2⟩

set_option maxRecDepth 100000 in
set_option maxHeartbeats 4000000 in
theorem rfarthest_any (m : Md) (w : World) : Calls Try.prog 29 #[m.val] w fun e w' => e = .returned (.int .i64 (farOf m)) ∧ Below w.heap.size w w' := by
  by_cases hm : mok m
  case neg =>
    rw [farOf, if_neg hm]
    have S := fun wx => Lib.hid (rmodel_false m wx hm)
    clear hm
    unfold Md.val at *
    go_enter Try.func29, Try.ntmps29
    go_wp2_with fail
    refine (S _).out.mono ?_
    rintro e w1 ⟨rfl, hb1⟩
    have hc1 := Below.next (below_alloc (Below.refl _ _) _) hb1
    go_wp2
    go_ret
    exact ⟨rfl, hc1⟩
  have hr := railOf_le hm
  rw [farOf, if_pos hm]
  have hm2 := hm
  obtain ⟨h1, h2, h3, h4, h5, h6, h7⟩ := hm2
  have S := fun wx => Lib.hid (rmodel_true m wx hm)
  have R := fun wx => Lib.hid (rrail_any m wx hm)
  have hmul := mul_in h5.1 h5.2 hr.1 hr.2
  clear hm
  generalize railOf m = ra at *
  obtain ⟨f0, f1, f2, f3, f4, f5, f6⟩ := m
  simp only at h1 h2 h3 h4 h5 h6 h7 hmul ⊢
  have hass : 2 * f4 * ra = 2 * (f4 * ra) := Int.mul_assoc _ _ _
  have m1 : IntKind.i64.wrap (2 * f4) = 2 * f4 := IntWalk.i64_in _ (by omega)
  have m2 : IntKind.i64.wrap (2 * f4 * ra) = 2 * f4 * ra := IntWalk.i64_in _ (by omega)
  have m3 : IntKind.i64.wrap (2 * f4 * ra + f5) = 2 * f4 * ra + f5 := IntWalk.i64_in _ (by omega)
  have m4 : IntKind.i64.wrap (2 * f4 * ra + f5 + f6) = 2 * f4 * ra + f5 + f6 := IntWalk.i64_in _ (by omega)
  clear hass hmul h1 h2 h3 h4 h5 h6 h7 hr
  unfold Md.val at *
  go_enter Try.func29, Try.ntmps29
  go_wp2_with fail
  refine (S _).out.mono ?_
  rintro e w1 ⟨rfl, hb1⟩
  have hc1 := Below.next (below_alloc (Below.refl _ _) _) hb1
  have M1 := MB.next (MB.start w _ _ _ _ _ _ _) hb1
  clear S hb1
  have K : ∀ wx, Below w1.heap.size w1 wx → Below w1.heap.size w1 wx ∧ wx.cell? ⟨w.heap.size, 0, none⟩ = some (.int .i64 f0) ∧ wx.cell? ⟨w.heap.size, 1, none⟩ = some (.int .i64 f1) ∧ wx.cell? ⟨w.heap.size, 2, none⟩ = some (.int .i64 f2) ∧ wx.cell? ⟨w.heap.size, 3, none⟩ = some (.int .i64 f3) ∧ wx.cell? ⟨w.heap.size, 4, none⟩ = some (.int .i64 f4) ∧ wx.cell? ⟨w.heap.size, 5, none⟩ = some (.int .i64 f5) ∧ wx.cell? ⟨w.heap.size, 6, none⟩ = some (.int .i64 f6) := fun wx hb => by
    have M := M1.next hb
    exact ⟨hb, M.g0, M.g1, M.g2, M.g3, M.g4, M.g5, M.g6⟩
  have I1 : Hid (∀ wx, Below w1.heap.size w1 wx → Calls Try.prog 42 #[.agg #[.int .i64 f0, .int .i64 f1, .int .i64 f2, .int .i64 f3, .int .i64 f4, .int .i64 f5, .int .i64 f6]] wx fun e w' => e = .returned (.int .i64 ra) ∧ Below w1.heap.size w1 w') := Lib.hid fun wx hb => (R wx).out.mono fun e w' h => ⟨h.1, Below.next hb h.2⟩
  have S0 := K w1.drew (Below.refl _ _).drew
  have KK := Lib.hid K
  clear K R M1
  go_wp2
  go_region_held3 (fun wx => Below w1.heap.size w1 wx ∧ wx.cell? ⟨w.heap.size, 0, none⟩ = some (.int .i64 f0) ∧ wx.cell? ⟨w.heap.size, 1, none⟩ = some (.int .i64 f1) ∧ wx.cell? ⟨w.heap.size, 2, none⟩ = some (.int .i64 f2) ∧ wx.cell? ⟨w.heap.size, 3, none⟩ = some (.int .i64 f3) ∧ wx.cell? ⟨w.heap.size, 4, none⟩ = some (.int .i64 f4) ∧ wx.cell? ⟨w.heap.size, 5, none⟩ = some (.int .i64 f5) ∧ wx.cell? ⟨w.heap.size, 6, none⟩ = some (.int .i64 f6)) (with_reducible first | assumption | exact S0 | exact KK.out _ (by assumption)) (first | (go_at_call 42; (with_reducible refine (I1.out _ ?_).mono ?_); (go_split_ands; with_reducible assumption); rintro e w2 ⟨rfl, hb2⟩))
  have hc2 := Below.next hc1 hb2
  go_wp2
  go_ret
  exact ⟨rfl, hc2⟩
end Go.Proofs.Ytpnkaoigpefmiaa
