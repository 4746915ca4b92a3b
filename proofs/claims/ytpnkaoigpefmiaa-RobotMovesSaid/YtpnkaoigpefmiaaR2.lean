/- Travel and Farthest, in the program and in the reference. -/
import Derived.Test.YtpnkaoigpefmiaaR1
namespace Go.Proofs.Ytpnkaoigpefmiaa
open Go.RowKit
set_option linter.unusedVariables false
set_option linter.unusedSimpArgs false

/-- Both places lie on the rail. -/
def onRail (m : Md) (f t : Int) : Prop := mok m ∧ (0 ≤ f ∧ f ≤ railOf m) ∧ (0 ≤ t ∧ t ≤ railOf m)
instance (m : Md) (f t : Int) : Decidable (onRail m f t) := by unfold onRail; infer_instance
def travOf (m : Md) (f t : Int) : Int := if onRail m f t then m.move * (if f ≤ t then t - f else f - t) else 0
theorem mul_in {a k : Int} (h0 : 0 ≤ a) (h1 : a ≤ 1000000) (k0 : 0 ≤ k) (k1 : k ≤ 2000) : 0 ≤ a * k ∧ a * k ≤ 2000000000 := by
  refine ⟨Int.mul_nonneg h0 k0, ?_⟩
  have := Int.mul_le_mul h1 k1 k0 (by omega)
  omega
theorem travOf_in (m : Md) (f t : Int) : 0 ≤ travOf m f t ∧ travOf m f t ≤ 2000000000 := by
  unfold travOf
  split
  · rename_i h
    obtain ⟨h1, h2, h3⟩ := h
    have hr := railOf_le h1
    have hm := h1.2.2.2.2.1
    split
    · exact mul_in hm.1 hm.2 (by omega) (by omega)
    · exact mul_in hm.1 hm.2 (by omega) (by omega)
  · omega
/-- The boxed model. -/
structure MB (w : World) (f0 f1 f2 f3 f4 f5 f6 : Int) (wx : World) : Prop where
  lt : w.heap.size < wx.heap.size
  g0 : wx.cell? ⟨w.heap.size, 0, none⟩ = some (.int .i64 f0)
  g1 : wx.cell? ⟨w.heap.size, 1, none⟩ = some (.int .i64 f1)
  g2 : wx.cell? ⟨w.heap.size, 2, none⟩ = some (.int .i64 f2)
  g3 : wx.cell? ⟨w.heap.size, 3, none⟩ = some (.int .i64 f3)
  g4 : wx.cell? ⟨w.heap.size, 4, none⟩ = some (.int .i64 f4)
  g5 : wx.cell? ⟨w.heap.size, 5, none⟩ = some (.int .i64 f5)
  g6 : wx.cell? ⟨w.heap.size, 6, none⟩ = some (.int .i64 f6)
theorem MB.next {w w1 w2 : World} {f0 f1 f2 f3 f4 f5 f6 : Int} (h : MB w f0 f1 f2 f3 f4 f5 f6 w1) (hb : Below w1.heap.size w1 w2) : MB w f0 f1 f2 f3 f4 f5 f6 w2 := by
  obtain ⟨lt, g0, g1, g2, g3, g4, g5, g6⟩ := h
  have := hb.size
  exact ⟨by omega, by rw [hb.cell lt]; exact g0, by rw [hb.cell lt]; exact g1, by rw [hb.cell lt]; exact g2, by rw [hb.cell lt]; exact g3, by rw [hb.cell lt]; exact g4, by rw [hb.cell lt]; exact g5, by rw [hb.cell lt]; exact g6⟩
theorem MB.start (w : World) (f0 f1 f2 f3 f4 f5 f6 : Int) : MB w f0 f1 f2 f3 f4 f5 f6 (w.alloc (.cells #[.int .i64 f0, .int .i64 f1, .int .i64 f2, .int .i64 f3, .int .i64 f4, .int .i64 f5, .int .i64 f6] 23)) :=
  ⟨by simp, by rw [World.cell?_alloc_mark]; rfl, by rw [World.cell?_alloc_mark]; rfl, by rw [World.cell?_alloc_mark]; rfl, by rw [World.cell?_alloc_mark]; rfl, by rw [World.cell?_alloc_mark]; rfl, by rw [World.cell?_alloc_mark]; rfl, by rw [World.cell?_alloc_mark]; rfl⟩
def farOf (m : Md) : Int := if mok m then 2 * m.move * railOf m + m.pick + m.put else 0

set_option maxRecDepth 100000 in
set_option maxHeartbeats 4000000 in
theorem travel_any (m : Md) (f t : Int) (w : World) (hf0 : -9223372036854775808 ≤ f) (hf1 : f ≤ 9223372036854775807) (ht0 : -9223372036854775808 ≤ t) (ht1 : t ≤ 9223372036854775807) :
    Calls Try.prog 27 #[m.val, .int .i64 f, .int .i64 t] w fun e w' => e = .returned (.int .i64 (travOf m f t)) ∧ Below w.heap.size w w' := by
  by_cases hm : mok m
  case neg =>
    rw [travOf, if_neg (fun h => hm h.1)]
    have S := fun wx => Lib.hid (sound_false m wx hm)
    clear hm
    unfold Md.val at *
    go_enter Try.func27, Try.ntmps27
    go_wp2_with fail
    refine (S _).out.mono ?_
    rintro e w1 ⟨rfl, hb1⟩
    have hc1 := Below.next (below_alloc (Below.refl _ _) _) hb1
    have MB1 := MB.next (MB.start w _ _ _ _ _ _ _) hb1
    obtain ⟨lt1, a1, b1, c1, d1, e1, k1, l1⟩ := id MB1
    replace MB1 := Lib.hid MB1
    go_wp2
    go_ret
    exact ⟨rfl, hc1⟩
  have hr := railOf_le hm
  have hmv := hm.2.2.2.2.1
  have S := fun wx => Lib.hid (sound_true m wx hm)
  have R := fun wx => Lib.hid (rail_any m wx hm)
  by_cases hft : f < t
  case pos =>
    by_cases h0 : f < 0
    · rw [travOf, if_neg (by unfold onRail; omega)]
      clear hr hmv hm
      unfold Md.val at *
      go_enter Try.func27, Try.ntmps27
      go_wp2_with fail
      refine (S _).out.mono ?_
      rintro e w1 ⟨rfl, hb1⟩
      have hc1 := Below.next (below_alloc (Below.refl _ _) _) hb1
      have MB1 := MB.next (MB.start w _ _ _ _ _ _ _) hb1
      obtain ⟨lt1, a1, b1, c1, d1, e1, k1, l1⟩ := id MB1
      replace MB1 := Lib.hid MB1
      go_wp2
      go_ret
      exact ⟨rfl, hc1⟩
    by_cases h1 : t ≤ railOf m
    · rw [travOf, if_pos ⟨hm, by omega, by omega⟩, if_pos (by omega)]
      have hmul := mul_in hmv.1 hmv.2 (show 0 ≤ t - f by omega) (by omega)
      have hw := IntWalk.i64_in (m.move * (t - f)) (by omega)
      generalize railOf m = ra at *
      have HW := Lib.hid hw
      clear hm hw
      obtain ⟨f0, f1, f2, f3, f4, f5, f6⟩ := m
      simp only at hmul HW hmv ⊢
      have hw := HW.out
      unfold Md.val at *
      go_enter Try.func27, Try.ntmps27
      go_wp2_with fail
      refine (S _).out.mono ?_
      rintro e w1 ⟨rfl, hb1⟩
      have hc1 := Below.next (below_alloc (Below.refl _ _) _) hb1
      have MB1 := MB.next (MB.start w _ _ _ _ _ _ _) hb1
      obtain ⟨lt1, a1, b1, c1, d1, e1, k1, l1⟩ := id MB1
      replace MB1 := Lib.hid MB1
      go_wp2_with fail
      refine (R _).out.mono ?_
      rintro e w2 ⟨rfl, hb2⟩
      have hc2 := Below.next hc1 hb2
      have MB2 := MB.next MB1.out hb2
      obtain ⟨lt2, a2, b2, c2, d2, e2, k2, l2⟩ := id MB2
      replace MB2 := Lib.hid MB2
      go_wp2
      go_ret
      exact ⟨rfl, hc2⟩
    · rw [travOf, if_neg (by unfold onRail; omega)]
      generalize railOf m = ra at *
      clear hmv hm
      unfold Md.val at *
      go_enter Try.func27, Try.ntmps27
      go_wp2_with fail
      refine (S _).out.mono ?_
      rintro e w1 ⟨rfl, hb1⟩
      have hc1 := Below.next (below_alloc (Below.refl _ _) _) hb1
      have MB1 := MB.next (MB.start w _ _ _ _ _ _ _) hb1
      obtain ⟨lt1, a1, b1, c1, d1, e1, k1, l1⟩ := id MB1
      replace MB1 := Lib.hid MB1
      go_wp2_with fail
      refine (R _).out.mono ?_
      rintro e w2 ⟨rfl, hb2⟩
      have hc2 := Below.next hc1 hb2
      have MB2 := MB.next MB1.out hb2
      obtain ⟨lt2, a2, b2, c2, d2, e2, k2, l2⟩ := id MB2
      replace MB2 := Lib.hid MB2
      go_wp2
      go_ret
      exact ⟨rfl, hc2⟩
  by_cases hgt : t < f
  case pos =>
    by_cases h0 : t < 0
    · rw [travOf, if_neg (by unfold onRail; omega)]
      clear hr hmv hm
      unfold Md.val at *
      go_enter Try.func27, Try.ntmps27
      go_wp2_with fail
      refine (S _).out.mono ?_
      rintro e w1 ⟨rfl, hb1⟩
      have hc1 := Below.next (below_alloc (Below.refl _ _) _) hb1
      have MB1 := MB.next (MB.start w _ _ _ _ _ _ _) hb1
      obtain ⟨lt1, a1, b1, c1, d1, e1, k1, l1⟩ := id MB1
      replace MB1 := Lib.hid MB1
      go_wp2
      go_ret
      exact ⟨rfl, hc1⟩
    by_cases h1 : f ≤ railOf m
    · rw [travOf, if_pos ⟨hm, by omega, by omega⟩, if_neg (by omega)]
      have hmul := mul_in hmv.1 hmv.2 (show 0 ≤ f - t by omega) (by omega)
      have hw := IntWalk.i64_in (m.move * (f - t)) (by omega)
      generalize railOf m = ra at *
      have HW := Lib.hid hw
      clear hm hw
      obtain ⟨f0, f1, f2, f3, f4, f5, f6⟩ := m
      simp only at hmul HW hmv ⊢
      have hw := HW.out
      unfold Md.val at *
      go_enter Try.func27, Try.ntmps27
      go_wp2_with fail
      refine (S _).out.mono ?_
      rintro e w1 ⟨rfl, hb1⟩
      have hc1 := Below.next (below_alloc (Below.refl _ _) _) hb1
      have MB1 := MB.next (MB.start w _ _ _ _ _ _ _) hb1
      obtain ⟨lt1, a1, b1, c1, d1, e1, k1, l1⟩ := id MB1
      replace MB1 := Lib.hid MB1
      go_wp2_with fail
      refine (R _).out.mono ?_
      rintro e w2 ⟨rfl, hb2⟩
      have hc2 := Below.next hc1 hb2
      have MB2 := MB.next MB1.out hb2
      obtain ⟨lt2, a2, b2, c2, d2, e2, k2, l2⟩ := id MB2
      replace MB2 := Lib.hid MB2
      go_wp2
      go_ret
      exact ⟨rfl, hc2⟩
    · rw [travOf, if_neg (by unfold onRail; omega)]
      generalize railOf m = ra at *
      clear hmv hm
      unfold Md.val at *
      go_enter Try.func27, Try.ntmps27
      go_wp2_with fail
      refine (S _).out.mono ?_
      rintro e w1 ⟨rfl, hb1⟩
      have hc1 := Below.next (below_alloc (Below.refl _ _) _) hb1
      have MB1 := MB.next (MB.start w _ _ _ _ _ _ _) hb1
      obtain ⟨lt1, a1, b1, c1, d1, e1, k1, l1⟩ := id MB1
      replace MB1 := Lib.hid MB1
      go_wp2_with fail
      refine (R _).out.mono ?_
      rintro e w2 ⟨rfl, hb2⟩
      have hc2 := Below.next hc1 hb2
      have MB2 := MB.next MB1.out hb2
      obtain ⟨lt2, a2, b2, c2, d2, e2, k2, l2⟩ := id MB2
      replace MB2 := Lib.hid MB2
      go_wp2
      go_ret
      exact ⟨rfl, hc2⟩
  obtain rfl : f = t := by omega
  by_cases h0 : f < 0
  · rw [travOf, if_neg (by unfold onRail; omega)]
    clear hr hmv hm
    unfold Md.val at *
    go_enter Try.func27, Try.ntmps27
    go_wp2_with fail
    refine (S _).out.mono ?_
    rintro e w1 ⟨rfl, hb1⟩
    have hc1 := Below.next (below_alloc (Below.refl _ _) _) hb1
    have MB1 := MB.next (MB.start w _ _ _ _ _ _ _) hb1
    obtain ⟨lt1, a1, b1, c1, d1, e1, k1, l1⟩ := id MB1
    replace MB1 := Lib.hid MB1
    go_wp2
    go_ret
    exact ⟨rfl, hc1⟩
  by_cases h1 : f ≤ railOf m
  · rw [travOf, if_pos ⟨hm, by omega, by omega⟩, if_pos (by omega), Int.sub_self, Int.mul_zero]
    generalize railOf m = ra at *
    clear hm
    unfold Md.val at *
    go_enter Try.func27, Try.ntmps27
    go_wp2_with fail
    refine (S _).out.mono ?_
    rintro e w1 ⟨rfl, hb1⟩
    have hc1 := Below.next (below_alloc (Below.refl _ _) _) hb1
    have MB1 := MB.next (MB.start w _ _ _ _ _ _ _) hb1
    obtain ⟨lt1, a1, b1, c1, d1, e1, k1, l1⟩ := id MB1
    replace MB1 := Lib.hid MB1
    go_wp2_with fail
    refine (R _).out.mono ?_
    rintro e w2 ⟨rfl, hb2⟩
    have hc2 := Below.next hc1 hb2
    have MB2 := MB.next MB1.out hb2
    obtain ⟨lt2, a2, b2, c2, d2, e2, k2, l2⟩ := id MB2
    replace MB2 := Lib.hid MB2
    go_wp2
    all_goals (go_ret; exact ⟨ret_int (by first | rfl | simp), hc2⟩)
  · rw [travOf, if_neg (by unfold onRail; omega)]
    generalize railOf m = ra at *
    clear hmv hm
    unfold Md.val at *
    go_enter Try.func27, Try.ntmps27
    go_wp2_with fail
    refine (S _).out.mono ?_
    rintro e w1 ⟨rfl, hb1⟩
    have hc1 := Below.next (below_alloc (Below.refl _ _) _) hb1
    have MB1 := MB.next (MB.start w _ _ _ _ _ _ _) hb1
    obtain ⟨lt1, a1, b1, c1, d1, e1, k1, l1⟩ := id MB1
    replace MB1 := Lib.hid MB1
    go_wp2_with fail
    refine (R _).out.mono ?_
    rintro e w2 ⟨rfl, hb2⟩
    have hc2 := Below.next hc1 hb2
    have MB2 := MB.next MB1.out hb2
    obtain ⟨lt2, a2, b2, c2, d2, e2, k2, l2⟩ := id MB2
    replace MB2 := Lib.hid MB2
    go_wp2
    go_ret
    exact ⟨rfl, hc2⟩

set_option maxRecDepth 100000 in
set_option maxHeartbeats 4000000 in
theorem rtravel_any (m : Md) (f t : Int) (w : World) (hf0 : -9223372036854775808 ≤ f) (hf1 : f ≤ 9223372036854775807) (ht0 : -9223372036854775808 ≤ t) (ht1 : t ≤ 9223372036854775807) :
    Calls Try.prog 28 #[m.val, .int .i64 f, .int .i64 t] w fun e w' => e = .returned (.int .i64 (travOf m f t)) ∧ Below w.heap.size w w' := by
  by_cases hm : mok m
  case neg =>
    rw [travOf, if_neg (fun h => hm h.1)]
    have S := fun wx => Lib.hid (rmodel_false m wx hm)
    clear hm
    unfold Md.val at *
    go_enter Try.func28, Try.ntmps28
    go_wp2_with fail
    refine (S _).out.mono ?_
    rintro e w1 ⟨rfl, hb1⟩
    have hc1 := Below.next (below_alloc (Below.refl _ _) _) hb1
    have MB1 := MB.next (MB.start w _ _ _ _ _ _ _) hb1
    obtain ⟨lt1, a1, b1, c1, d1, e1, k1, l1⟩ := id MB1
    replace MB1 := Lib.hid MB1
    go_wp2
    go_ret
    exact ⟨rfl, hc1⟩
  have hr := railOf_le hm
  have hmv := hm.2.2.2.2.1
  have S := fun wx => Lib.hid (rmodel_true m wx hm)
  have R := fun wx => Lib.hid (rrail_any m wx hm)
  by_cases h0 : 0 ≤ f ∧ f ≤ railOf m
  case neg =>
    rw [travOf, if_neg (fun h => h0 h.2.1)]
    generalize railOf m = ra at *
    clear hmv hm
    unfold Md.val at *
    go_enter Try.func28, Try.ntmps28
    go_wp2_with fail
    refine (S _).out.mono ?_
    rintro e w1 ⟨rfl, hb1⟩
    have hc1 := Below.next (below_alloc (Below.refl _ _) _) hb1
    have MB1 := MB.next (MB.start w _ _ _ _ _ _ _) hb1
    obtain ⟨lt1, a1, b1, c1, d1, e1, k1, l1⟩ := id MB1
    replace MB1 := Lib.hid MB1
    go_wp2_with fail
    refine (R _).out.mono ?_
    rintro e w2 ⟨rfl, hb2⟩
    have hc2 := Below.next hc1 hb2
    have MB2 := MB.next MB1.out hb2
    obtain ⟨lt2, a2, b2, c2, d2, e2, k2, l2⟩ := id MB2
    replace MB2 := Lib.hid MB2
    go_wp2_with fail
    refine (in39_false _ _ _ _ h0).mono ?_
    rintro e wz ⟨rfl, rfl⟩
    go_wp2
    go_ret
    exact ⟨rfl, hc2⟩
  by_cases h1 : 0 ≤ t ∧ t ≤ railOf m
  case neg =>
    rw [travOf, if_neg (fun h => h1 h.2.2)]
    generalize railOf m = ra at *
    clear hmv hm
    unfold Md.val at *
    go_enter Try.func28, Try.ntmps28
    go_wp2_with fail
    refine (S _).out.mono ?_
    rintro e w1 ⟨rfl, hb1⟩
    have hc1 := Below.next (below_alloc (Below.refl _ _) _) hb1
    have MB1 := MB.next (MB.start w _ _ _ _ _ _ _) hb1
    obtain ⟨lt1, a1, b1, c1, d1, e1, k1, l1⟩ := id MB1
    replace MB1 := Lib.hid MB1
    go_wp2_with fail
    refine (R _).out.mono ?_
    rintro e w2 ⟨rfl, hb2⟩
    have hc2 := Below.next hc1 hb2
    have MB2 := MB.next MB1.out hb2
    obtain ⟨lt2, a2, b2, c2, d2, e2, k2, l2⟩ := id MB2
    replace MB2 := Lib.hid MB2
    go_wp2_with fail
    refine (in39_true _ _ _ _ h0).mono ?_
    rintro e wz ⟨rfl, rfl⟩
    go_wp2_with fail
    refine (R _).out.mono ?_
    rintro e w3 ⟨rfl, hb3⟩
    have hc3 := Below.next hc2 hb3
    have MB3 := MB.next MB2.out hb3
    obtain ⟨lt3, a3, b3, c3, d3, e3, k3, l3⟩ := id MB3
    replace MB3 := Lib.hid MB3
    go_wp2_with fail
    refine (in39_false _ _ _ _ h1).mono ?_
    rintro e wz ⟨rfl, rfl⟩
    go_wp2
    go_ret
    exact ⟨rfl, hc3⟩
  by_cases hft : f ≤ t
  case pos =>
    rw [travOf, if_pos ⟨hm, h0, h1⟩, if_pos hft]
    have hmul := mul_in hmv.1 hmv.2 (show 0 ≤ t - f by omega) (by omega)
    have hw := IntWalk.i64_in (m.move * (t - f)) (by omega)
    generalize railOf m = ra at *
    have HW := Lib.hid hw
    clear hm hw
    obtain ⟨f0, f1, f2, f3, f4, f5, f6⟩ := m
    simp only at hmul HW hmv ⊢
    have hw := HW.out
    unfold Md.val at *
    go_enter Try.func28, Try.ntmps28
    go_wp2_with fail
    refine (S _).out.mono ?_
    rintro e w1 ⟨rfl, hb1⟩
    have hc1 := Below.next (below_alloc (Below.refl _ _) _) hb1
    have MB1 := MB.next (MB.start w _ _ _ _ _ _ _) hb1
    obtain ⟨lt1, a1, b1, c1, d1, e1, k1, l1⟩ := id MB1
    replace MB1 := Lib.hid MB1
    go_wp2_with fail
    refine (R _).out.mono ?_
    rintro e w2 ⟨rfl, hb2⟩
    have hc2 := Below.next hc1 hb2
    have MB2 := MB.next MB1.out hb2
    obtain ⟨lt2, a2, b2, c2, d2, e2, k2, l2⟩ := id MB2
    replace MB2 := Lib.hid MB2
    go_wp2_with fail
    refine (in39_true _ _ _ _ h0).mono ?_
    rintro e wz ⟨rfl, rfl⟩
    go_wp2_with fail
    refine (R _).out.mono ?_
    rintro e w3 ⟨rfl, hb3⟩
    have hc3 := Below.next hc2 hb3
    have MB3 := MB.next MB2.out hb3
    obtain ⟨lt3, a3, b3, c3, d3, e3, k3, l3⟩ := id MB3
    replace MB3 := Lib.hid MB3
    go_wp2_with fail
    refine (in39_true _ _ _ _ h1).mono ?_
    rintro e wz ⟨rfl, rfl⟩
    go_wp2
    go_ret
    exact ⟨rfl, hc3⟩
  rw [travOf, if_pos ⟨hm, h0, h1⟩, if_neg hft]
  have hmul := mul_in hmv.1 hmv.2 (show 0 ≤ f - t by omega) (by omega)
  have hw := IntWalk.i64_in (m.move * (f - t)) (by omega)
  generalize railOf m = ra at *
  have HW := Lib.hid hw
  clear hm hw
  obtain ⟨f0, f1, f2, f3, f4, f5, f6⟩ := m
  simp only at hmul HW hmv ⊢
  have hw := HW.out
  unfold Md.val at *
  go_enter Try.func28, Try.ntmps28
  go_wp2_with fail
  refine (S _).out.mono ?_
  rintro e w1 ⟨rfl, hb1⟩
  have hc1 := Below.next (below_alloc (Below.refl _ _) _) hb1
  have MB1 := MB.next (MB.start w _ _ _ _ _ _ _) hb1
  obtain ⟨lt1, a1, b1, c1, d1, e1, k1, l1⟩ := id MB1
  replace MB1 := Lib.hid MB1
  go_wp2_with fail
  refine (R _).out.mono ?_
  rintro e w2 ⟨rfl, hb2⟩
  have hc2 := Below.next hc1 hb2
  have MB2 := MB.next MB1.out hb2
  obtain ⟨lt2, a2, b2, c2, d2, e2, k2, l2⟩ := id MB2
  replace MB2 := Lib.hid MB2
  go_wp2_with fail
  refine (in39_true _ _ _ _ h0).mono ?_
  rintro e wz ⟨rfl, rfl⟩
  go_wp2_with fail
  refine (R _).out.mono ?_
  rintro e w3 ⟨rfl, hb3⟩
  have hc3 := Below.next hc2 hb3
  have MB3 := MB.next MB2.out hb3
  obtain ⟨lt3, a3, b3, c3, d3, e3, k3, l3⟩ := id MB3
  replace MB3 := Lib.hid MB3
  go_wp2_with fail
  refine (in39_true _ _ _ _ h1).mono ?_
  rintro e wz ⟨rfl, rfl⟩
  go_wp2
  go_ret
  exact ⟨rfl, hc3⟩
end Go.Proofs.Ytpnkaoigpefmiaa
