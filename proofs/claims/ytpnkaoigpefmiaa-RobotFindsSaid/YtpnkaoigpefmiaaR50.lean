/- The law RobotValids, walked. -/
import Derived.Test.YtpnkaoigpefmiaaR49
import Derived.Test.YtpnkaoigpefmiaaWLast
namespace Go.Proofs.Ytpnkaoigpefmiaa
open Go.RowKit
open Go.Proofs.YtpnkaoigpefmiaaW.PrintLast
set_option linter.unusedVariables false
set_option linter.unusedSimpArgs false

set_option maxRecDepth 100000 in
set_option maxHeartbeats 2000000 in
theorem valids_law (HA : Awake) (m : Md) (r : Rb) (a : Option Addr) (c : Nat) (k i : Int) (b : ByteArray) (x y : Int) (w : World) (hr : RobArg w r a c)
    (hi0 : -9223372036854775808 ≤ i) (hi1 : i ≤ 9223372036854775807) (hx0 : -9223372036854775808 ≤ x) (hx1 : x ≤ 9223372036854775807) (hy0 : -9223372036854775808 ≤ y) (hy1 : y ≤ 9223372036854775807) :
    Calls Try.prog 7 #[m.val, r.val a c, .agg #[.int .i64 k, .int .i64 i], .string b, .int .i64 x, .int .i64 y] w fun e w' => e = .returned (.bool true) ∧ Below w.heap.size w w' := by
  obtain ⟨f0, f1, f2, f3, f4, f5, f6⟩ := m
  have hrf := hr.few
  have X0 := C3.start w f0 f1 f2 f3 f4 f5 f6 r a c k i
  have V := Lib.hid (few_any r a c (((w.alloc (.cells #[.int .i64 f0, .int .i64 f1, .int .i64 f2, .int .i64 f3, .int .i64 f4, .int .i64 f5, .int .i64 f6] 23)).alloc (.cells #[.int .i64 r.pos, .bool r.failed, .slice a r.slots.length c, .string r.port, .string r.hand] 26)).alloc (.cells #[.int .i64 k, .int .i64 i] 28)) hr.cap hr.len)
  have c20 : ∀ wx, Below w.heap.size w wx → Hid (Calls Try.prog 20 #[(⟨f0, f1, f2, f3, f4, f5, f6⟩ : Md).val, (fewR r).val a c, .agg #[.int .i64 k, .int .i64 i]] wx fun e w' => e = .returned (.tuple #[.int .i64 (posOf ⟨f0, f1, f2, f3, f4, f5, f6⟩ (fewR r) k i).1, .bool (posOf ⟨f0, f1, f2, f3, f4, f5, f6⟩ (fewR r) k i).2]) ∧ Below wx.heap.size wx w') := fun wx hb => Lib.hid (position_any _ _ a c k i wx (hrf.below hb) hi0 hi1)
  have c21 : ∀ wx, Below w.heap.size w wx → Hid (Calls Try.prog 21 #[(⟨f0, f1, f2, f3, f4, f5, f6⟩ : Md).val, (fewR r).val a c, .agg #[.int .i64 k, .int .i64 i]] wx fun e w' => e = .returned (.tuple #[.int .i64 (posOf ⟨f0, f1, f2, f3, f4, f5, f6⟩ (fewR r) k i).1, .bool (posOf ⟨f0, f1, f2, f3, f4, f5, f6⟩ (fewR r) k i).2]) ∧ Below wx.heap.size wx w') := fun wx hb => Lib.hid (rposition_any _ _ a c k i wx (hrf.strs.below hb) hrf.cap hrf.nil hrf.len hi0 hi1)
  have c22 : ∀ wx, Below w.heap.size w wx → Hid (Calls Try.prog 22 #[(fewR r).val a c, .string b] wx fun e w' => e = .returned (.tuple #[.agg #[.int .i64 (findOf (fewR r) b).1, .int .i64 (findOf (fewR r) b).2.1], .bool (findOf (fewR r) b).2.2]) ∧ Below wx.heap.size wx w') := fun wx hb => Lib.hid (find_any _ a c b wx (hrf.strs.below hb) hrf.cap hrf.len)
  have c23 : ∀ wx, Below w.heap.size w wx → Hid (Calls Try.prog 23 #[(fewR r).val a c, .string b] wx fun e w' => e = .returned (.tuple #[.agg #[.int .i64 (findOf (fewR r) b).1, .int .i64 (findOf (fewR r) b).2.1], .bool (findOf (fewR r) b).2.2]) ∧ Below wx.heap.size wx w') := fun wx hb => Lib.hid (rfind_any _ a c b wx (hrf.strs.below hb) hrf.cap hrf.len)
  have c24 : ∀ wx, Below w.heap.size w wx → Hid (Calls Try.prog 24 #[(fewR r).val a c] wx fun e w' => e = .returned (.tuple #[.int .i64 (emptyOf (fewR r).slots).1, .bool (emptyOf (fewR r).slots).2]) ∧ Below wx.heap.size wx w') := fun wx hb => Lib.hid (empty_any _ a c wx (hrf.strs.below hb) hrf.cap hrf.len)
  have c25 : ∀ wx, Below w.heap.size w wx → Hid (Calls Try.prog 25 #[(fewR r).val a c] wx fun e w' => e = .returned (.tuple #[.int .i64 (emptyOf (fewR r).slots).1, .bool (emptyOf (fewR r).slots).2]) ∧ Below wx.heap.size wx w') := fun wx hb => Lib.hid (rempty_any _ a c wx (hrf.strs.below hb) hrf.cap hrf.len)
  have c16 : ∀ wx, Below w.heap.size w wx → Hid (Calls Try.prog 16 #[(⟨f0, f1, f2, f3, f4, f5, f6⟩ : Md).val, (fewR r).val a c] wx fun e w' => e = .returned (.bool (decide (validR ⟨f0, f1, f2, f3, f4, f5, f6⟩ (fewR r)))) ∧ Below wx.heap.size wx w') := fun wx hb => Lib.hid (valid_any _ _ a c wx (hrf.below hb))
  have c26 : ∀ wx, Below w.heap.size w wx → Hid (Calls Try.prog 26 #[(⟨f0, f1, f2, f3, f4, f5, f6⟩ : Md).val, (fewR r).val a c] wx fun e w' => e = .returned (.bool (decide (validR ⟨f0, f1, f2, f3, f4, f5, f6⟩ (fewR r)))) ∧ Below wx.heap.size wx w') := fun wx hb => Lib.hid (rvalid_any _ _ a c wx (hrf.strs.below hb) hrf.cap hrf.nil hrf.len)
  have c27 : ∀ wx, Hid (Calls Try.prog 27 #[(⟨f0, f1, f2, f3, f4, f5, f6⟩ : Md).val, .int .i64 x, .int .i64 y] wx fun e w' => e = .returned (.int .i64 (travOf ⟨f0, f1, f2, f3, f4, f5, f6⟩ x y)) ∧ Below wx.heap.size wx w') := fun wx => Lib.hid (travel_any _ x y wx hx0 hx1 hy0 hy1)
  have c28 : ∀ wx, Hid (Calls Try.prog 28 #[(⟨f0, f1, f2, f3, f4, f5, f6⟩ : Md).val, .int .i64 x, .int .i64 y] wx fun e w' => e = .returned (.int .i64 (travOf ⟨f0, f1, f2, f3, f4, f5, f6⟩ x y)) ∧ Below wx.heap.size wx w') := fun wx => Lib.hid (rtravel_any _ x y wx hx0 hx1 hy0 hy1)
  have c17 : ∀ wx, Hid (Calls Try.prog 17 #[(⟨f0, f1, f2, f3, f4, f5, f6⟩ : Md).val] wx fun e w' => e = .returned (.int .i64 (farOf ⟨f0, f1, f2, f3, f4, f5, f6⟩)) ∧ Below wx.heap.size wx w') := fun wx => Lib.hid (farthest_any _ wx)
  have c29 : ∀ wx, Hid (Calls Try.prog 29 #[(⟨f0, f1, f2, f3, f4, f5, f6⟩ : Md).val] wx fun e w' => e = .returned (.int .i64 (farOf ⟨f0, f1, f2, f3, f4, f5, f6⟩)) ∧ Below wx.heap.size wx w') := fun wx => Lib.hid (rfarthest_any _ wx)
  have HX0 := Lib.hid X0
  generalize posOf ⟨f0, f1, f2, f3, f4, f5, f6⟩ (fewR r) k i = po at *
  generalize findOf (fewR r) b = fo at *
  generalize emptyOf (fewR r).slots = eo at *
  generalize decide (validR ⟨f0, f1, f2, f3, f4, f5, f6⟩ (fewR r)) = va at *
  generalize travOf ⟨f0, f1, f2, f3, f4, f5, f6⟩ x y = tv at *
  generalize farOf ⟨f0, f1, f2, f3, f4, f5, f6⟩ = fa at *
  generalize fewR r = r2 at *
  have C20 := Lib.hid c20
  have C21 := Lib.hid c21
  have C22 := Lib.hid c22
  have C23 := Lib.hid c23
  have C24 := Lib.hid c24
  have C25 := Lib.hid c25
  have C16 := Lib.hid c16
  have C26 := Lib.hid c26
  have C27 := Lib.hid c27
  have C28 := Lib.hid c28
  have C17 := Lib.hid c17
  have C29 := Lib.hid c29
  clear X0 hr hrf hi0 hi1 hx0 hx1 hy0 hy1 c20 c21 c22 c23 c24 c25 c16 c26 c27 c28 c17 c29
  obtain ⟨po1, po2⟩ := po
  obtain ⟨fo1, fo2, fo3⟩ := fo
  obtain ⟨eo1, eo2⟩ := eo
  obtain ⟨p0, fl, ss, pt, ha⟩ := r2
  unfold Md.val Rb.val at *
  dsimp only at *
  have v1 : (po1 != po1) = false := by simp
  have v2 : (po2 != po2) = false := by simp
  have v3 : (fo3 != fo3) = false := by simp
  have v4 : ((eo1 : Int) != (eo1 : Int)) = false := by simp
  have v5 : (eo2 != eo2) = false := by simp
  have v6 : (va == va) = true := by simp
  have v7 : (tv == tv) = true := by simp
  have v8 : (fa == fa) = true := by simp
  have v9 : (fo1 == fo1) = true := by simp
  have va' : (fo2 == fo2) = true := by simp
  go_enter Try.func7, Try.ntmps7
  go_wp2_with fail
  refine V.out.mono ?_
  rintro e w1 ⟨rfl, hb1⟩
  have X1 := HX0.out.next hb1
  have X2 := X1.turn ⟨p0, fl, ss, pt, ha⟩ a c
  dsimp only at X2
  obtain ⟨b0, b1, b2, b3, b4⟩ := X1.r.at5
  have bf := fun j => X1.r.free j
  clear HX0 V hb1 X1
  dsimp only
  iterate 8 (first | go_skip | go_guarded | go_step | go_upon)
  obtain ⟨w2, hw2⟩ : ∃ w2, w2 = ((((w1.setCell ⟨w.heap.size + 1, 0, none⟩ (.int .i64 p0)).setCell ⟨w.heap.size + 1, 1, none⟩ (.bool fl)).setCell ⟨w.heap.size + 1, 2, none⟩ (.slice a ss.length c)).setCell ⟨w.heap.size + 1, 3, none⟩ (.string pt)).setCell ⟨w.heap.size + 1, 4, none⟩ (.string ha) := ⟨_, rfl⟩
  rw [← hw2] at X2 ⊢
  clear hw2 b0 b1 b2 b3 b4 bf
  obtain ⟨b0, b1, b2, b3, b4⟩ := X2.r.at5
  obtain ⟨m0, m1, m2, m3, m4, m5, m6, m7⟩ := X2.m
  have j0 := X2.e.g0
  have j1 := X2.e.g1
  dsimp only at b0 b1 b2 b3 b4
  have HX2 := Lib.hid X2
  clear X2
  go_wp2_with fail
  refine (C20.out _ HX2.out.low).out.mono ?_
  rintro e w3 ⟨rfl, hb3⟩
  have X3 := HX2.out.next hb3
  clear b0 b1 b2 b3 b4 m0 m1 m2 m3 m4 m5 m6 m7 j0 j1
  obtain ⟨b0, b1, b2, b3, b4⟩ := X3.r.at5
  obtain ⟨m0, m1, m2, m3, m4, m5, m6, m7⟩ := X3.m
  have j0 := X3.e.g0
  have j1 := X3.e.g1
  try dsimp only at b0 b1 b2 b3 b4
  have HX3 := Lib.hid X3
  clear X3 hb3
  go_wp2_with fail
  refine (C21.out _ HX3.out.low).out.mono ?_
  rintro e w4 ⟨rfl, hb4⟩
  have X4 := HX3.out.next hb4
  clear b0 b1 b2 b3 b4 m0 m1 m2 m3 m4 m5 m6 m7 j0 j1
  obtain ⟨b0, b1, b2, b3, b4⟩ := X4.r.at5
  obtain ⟨m0, m1, m2, m3, m4, m5, m6, m7⟩ := X4.m
  have j0 := X4.e.g0
  have j1 := X4.e.g1
  try dsimp only at b0 b1 b2 b3 b4
  have HX4 := Lib.hid X4
  clear X4 hb4
  go_wp2_with fail
  refine (C22.out _ HX4.out.low).out.mono ?_
  rintro e w5 ⟨rfl, hb5⟩
  have X5 := HX4.out.next hb5
  have X5' := X5.next (below_alloc (Below.refl _ _) (.cells #[.int .i64 fo1, .int .i64 fo2] 28))
  have E5 := Blk.new w5 28 #[.int .i64 fo1, .int .i64 fo2]
  have z5 := X5.e.lt
  have k1 : w.heap.size + 1 < w5.heap.size := by omega
  have k2 : w.heap.size + 1 + 1 < w5.heap.size := by omega
  clear b0 b1 b2 b3 b4 m0 m1 m2 m3 m4 m5 m6 m7 j0 j1
  obtain ⟨b0, b1, b2, b3, b4⟩ := X5.r.at5
  obtain ⟨m0, m1, m2, m3, m4, m5, m6, m7⟩ := X5.m
  have j0 := X5.e.g0
  have j1 := X5.e.g1
  try dsimp only at b0 b1 b2 b3 b4
  have HX5 := Lib.hid X5'
  clear X5 X5' hb5
  go_wp2_with fail
  refine (C23.out _ HX5.out.low).out.mono ?_
  rintro e w6 ⟨rfl, hb6⟩
  have X6 := HX5.out.next hb6
  have X6' := X6.next (below_alloc (Below.refl _ _) (.cells #[.int .i64 fo1, .int .i64 fo2] 28))
  have E6 := (E5.below hb6).alloc (.cells #[.int .i64 fo1, .int .i64 fo2] 28)
  have G6 := Blk.new w6 28 #[.int .i64 fo1, .int .i64 fo2]
  have z6 := hb6.size
  simp only [World.size_alloc] at z6
  have l1 : w.heap.size + 1 < w6.heap.size := by omega
  have l2 : w.heap.size + 1 + 1 < w6.heap.size := by omega
  have l0 : w.heap.size < w6.heap.size := by omega
  clear b0 b1 b2 b3 b4 m0 m1 m2 m3 m4 m5 m6 m7 j0 j1
  obtain ⟨b0, b1, b2, b3, b4⟩ := X6.r.at5
  obtain ⟨m0, m1, m2, m3, m4, m5, m6, m7⟩ := X6.m
  have j0 := X6.e.g0
  have j1 := X6.e.g1
  try dsimp only at b0 b1 b2 b3 b4
  have HX6 := Lib.hid X6'
  have HE6 := Lib.hid E6
  have HG6 := Lib.hid G6
  clear X6 X6' hb6 E5 E6 G6
  go_wp2_with fail
  refine (C24.out _ HX6.out.low).out.mono ?_
  rintro e w7 ⟨rfl, hb7⟩
  have X7 := HX6.out.next hb7
  have HE7 := Lib.hid (HE6.out.below hb7)
  have HG7 := Lib.hid (HG6.out.below hb7)
  clear b0 b1 b2 b3 b4 m0 m1 m2 m3 m4 m5 m6 m7 j0 j1
  obtain ⟨b0, b1, b2, b3, b4⟩ := X7.r.at5
  obtain ⟨m0, m1, m2, m3, m4, m5, m6, m7⟩ := X7.m
  have j0 := X7.e.g0
  have j1 := X7.e.g1
  try dsimp only at b0 b1 b2 b3 b4
  have HX7 := Lib.hid X7
  clear X7 hb7
  go_wp2_with fail
  refine (C25.out _ HX7.out.low).out.mono ?_
  rintro e w8 ⟨rfl, hb8⟩
  have X8 := HX7.out.next hb8
  have E8 := HE7.out.below hb8
  have G8 := HG7.out.below hb8
  clear b0 b1 b2 b3 b4 m0 m1 m2 m3 m4 m5 m6 m7 j0 j1
  obtain ⟨b0, b1, b2, b3, b4⟩ := X8.r.at5
  obtain ⟨m0, m1, m2, m3, m4, m5, m6, m7⟩ := X8.m
  have j0 := X8.e.g0
  have j1 := X8.e.g1
  try dsimp only at b0 b1 b2 b3 b4
  have HX8 := Lib.hid X8
  clear X8 hb8
  have y0 : w8.cell? ⟨w5.heap.size, 0, none⟩ = some (.int .i64 fo1) := E8.cell 0
  have y1 : w8.cell? ⟨w5.heap.size, 1, none⟩ = some (.int .i64 fo2) := E8.cell 1
  have y2 : w8.cell? ⟨w6.heap.size, 0, none⟩ = some (.int .i64 fo1) := G8.cell 0
  have y3 : w8.cell? ⟨w6.heap.size, 1, none⟩ = some (.int .i64 fo2) := G8.cell 1
  have K : ∀ wx, Below w8.heap.size w8 wx → Below w8.heap.size w8 wx ∧ wx.cell? ⟨w.heap.size, 0, none⟩ = some (.int .i64 f0) ∧ wx.cell? ⟨w.heap.size, 1, none⟩ = some (.int .i64 f1) ∧ wx.cell? ⟨w.heap.size, 2, none⟩ = some (.int .i64 f2) ∧ wx.cell? ⟨w.heap.size, 3, none⟩ = some (.int .i64 f3) ∧ wx.cell? ⟨w.heap.size, 4, none⟩ = some (.int .i64 f4) ∧ wx.cell? ⟨w.heap.size, 5, none⟩ = some (.int .i64 f5) ∧ wx.cell? ⟨w.heap.size, 6, none⟩ = some (.int .i64 f6) ∧ wx.cell? ⟨w.heap.size + 1, 0, none⟩ = some (.int .i64 p0) ∧ wx.cell? ⟨w.heap.size + 1, 1, none⟩ = some (.bool fl) ∧ wx.cell? ⟨w.heap.size + 1, 2, none⟩ = some (.slice a ss.length c) ∧ wx.cell? ⟨w.heap.size + 1, 3, none⟩ = some (.string pt) ∧ wx.cell? ⟨w.heap.size + 1, 4, none⟩ = some (.string ha) := fun wx hb => by
    have X := HX8.out.next hb
    obtain ⟨t0, t1, t2, t3, t4⟩ := X.r.at5
    exact ⟨hb, X.m.g0, X.m.g1, X.m.g2, X.m.g3, X.m.g4, X.m.g5, X.m.g6, t0, t1, t2, t3, t4⟩
  have S0 := K w8.drew (Below.refl _ _).drew
  have KK := Lib.hid K
  have hL8 := HX8.out.low
  have I16 : Hid (∀ wx, Below w8.heap.size w8 wx → Calls Try.prog 16 #[.agg #[.int .i64 f0, .int .i64 f1, .int .i64 f2, .int .i64 f3, .int .i64 f4, .int .i64 f5, .int .i64 f6], .agg #[.int .i64 p0, .bool fl, .slice a ss.length c, .string pt, .string ha]] wx fun e w' => e = .returned (.bool va) ∧ Below w8.heap.size w8 w') := Lib.hid fun wx hb => (C16.out wx (Below.trans hL8 (hb.mono hL8.size))).out.mono fun e w' h => ⟨h.1, Below.next hb h.2⟩
  have I26 : Hid (∀ wx, Below w8.heap.size w8 wx → Calls Try.prog 26 #[.agg #[.int .i64 f0, .int .i64 f1, .int .i64 f2, .int .i64 f3, .int .i64 f4, .int .i64 f5, .int .i64 f6], .agg #[.int .i64 p0, .bool fl, .slice a ss.length c, .string pt, .string ha]] wx fun e w' => e = .returned (.bool va) ∧ Below w8.heap.size w8 w') := Lib.hid fun wx hb => (C26.out wx (Below.trans hL8 (hb.mono hL8.size))).out.mono fun e w' h => ⟨h.1, Below.next hb h.2⟩
  have I27 : Hid (∀ wx, Below w8.heap.size w8 wx → Calls Try.prog 27 #[.agg #[.int .i64 f0, .int .i64 f1, .int .i64 f2, .int .i64 f3, .int .i64 f4, .int .i64 f5, .int .i64 f6], .int .i64 x, .int .i64 y] wx fun e w' => e = .returned (.int .i64 tv) ∧ Below w8.heap.size w8 w') := Lib.hid fun wx hb => (C27.out wx).out.mono fun e w' h => ⟨h.1, Below.next hb h.2⟩
  have I28 : Hid (∀ wx, Below w8.heap.size w8 wx → Calls Try.prog 28 #[.agg #[.int .i64 f0, .int .i64 f1, .int .i64 f2, .int .i64 f3, .int .i64 f4, .int .i64 f5, .int .i64 f6], .int .i64 x, .int .i64 y] wx fun e w' => e = .returned (.int .i64 tv) ∧ Below w8.heap.size w8 w') := Lib.hid fun wx hb => (C28.out wx).out.mono fun e w' h => ⟨h.1, Below.next hb h.2⟩
  have I17 : Hid (∀ wx, Below w8.heap.size w8 wx → Calls Try.prog 17 #[.agg #[.int .i64 f0, .int .i64 f1, .int .i64 f2, .int .i64 f3, .int .i64 f4, .int .i64 f5, .int .i64 f6]] wx fun e w' => e = .returned (.int .i64 fa) ∧ Below w8.heap.size w8 w') := Lib.hid fun wx hb => (C17.out wx).out.mono fun e w' h => ⟨h.1, Below.next hb h.2⟩
  have I29 : Hid (∀ wx, Below w8.heap.size w8 wx → Calls Try.prog 29 #[.agg #[.int .i64 f0, .int .i64 f1, .int .i64 f2, .int .i64 f3, .int .i64 f4, .int .i64 f5, .int .i64 f6]] wx fun e w' => e = .returned (.int .i64 fa) ∧ Below w8.heap.size w8 w') := Lib.hid fun wx hb => (C29.out wx).out.mono fun e w' h => ⟨h.1, Below.next hb h.2⟩
  have I13 : Hid (∀ wx, Below w8.heap.size w8 wx → Calls Try.prog 13 #[] wx fun e w' => e = .returned (.bool true) ∧ Below w8.heap.size w8 w') := Lib.hid fun wx hb => (HA wx).mono fun e w' h => ⟨h.1, Below.next hb h.2⟩
  have HL8 := Lib.hid hL8
  clear K hL8 C16 C26 C27 C28 C17 C29 C20 C21 C22 C23 C24 C25 HX8 HX7 HX6 HX5 HX4 HX3 HX2 E8 G8 HE6 HE7 HG6 HG7 b0 b1 b2 b3 b4 m0 m1 m2 m3 m4 m5 m6 m7 j0 j1
  go_wp2_with fail
  refine start_ (n := 29) (S := (fun wx => Below w8.heap.size w8 wx ∧ wx.cell? ⟨w.heap.size, 0, none⟩ = some (.int .i64 f0) ∧ wx.cell? ⟨w.heap.size, 1, none⟩ = some (.int .i64 f1) ∧ wx.cell? ⟨w.heap.size, 2, none⟩ = some (.int .i64 f2) ∧ wx.cell? ⟨w.heap.size, 3, none⟩ = some (.int .i64 f3) ∧ wx.cell? ⟨w.heap.size, 4, none⟩ = some (.int .i64 f4) ∧ wx.cell? ⟨w.heap.size, 5, none⟩ = some (.int .i64 f5) ∧ wx.cell? ⟨w.heap.size, 6, none⟩ = some (.int .i64 f6) ∧ wx.cell? ⟨w.heap.size + 1, 0, none⟩ = some (.int .i64 p0) ∧ wx.cell? ⟨w.heap.size + 1, 1, none⟩ = some (.bool fl) ∧ wx.cell? ⟨w.heap.size + 1, 2, none⟩ = some (.slice a ss.length c) ∧ wx.cell? ⟨w.heap.size + 1, 3, none⟩ = some (.string pt) ∧ wx.cell? ⟨w.heap.size + 1, 4, none⟩ = some (.string ha))) (ds := []) #[false, false, false, false, false, false, false, false, false, false, false, false, false, false, false, false, false, false, false, false, false, false, false, false, false, false, false, false, false] (by kernel_rfl) rfl rfl S0 (fun hHeld => ?_)
  refine take_ (i := 0) (N := some 91) (v := ?_) (a' := ?_) #[true, false, false, false, false, false, false, false, false, false, false, false, false, false, false, false, false, false, false, false, false, false, false, false, false, false, false, false, false] rfl rfl (by kernel_rfl) (fun _ _ _ h => h) (Or.inl ⟨by rfl, ?_⟩) hHeld ?_ ?_
  rotate_left
  · rintro w' ⟨s0, s1, s2, s3, s4, s5, s6, s7, s8, s9, s10, s11, s12⟩
    go_simp
    try with_reducible rfl
  rotate_left
  · simp only [Act.put, List.setIfInBounds_toArray, List.set_cons_zero, List.set_cons_succ]
    rfl
  refine take_ (i := 1) (N := some 92) (v := ?_) (a' := ?_) #[true, true, false, false, false, false, false, false, false, false, false, false, false, false, false, false, false, false, false, false, false, false, false, false, false, false, false, false, false] rfl rfl (by kernel_rfl) (fun _ _ _ h => h) (Or.inl ⟨by rfl, ?_⟩) hHeld ?_ ?_
  rotate_left
  · rintro w' ⟨s0, s1, s2, s3, s4, s5, s6, s7, s8, s9, s10, s11, s12⟩
    go_simp
    try with_reducible rfl
  rotate_left
  · simp only [Act.put, List.setIfInBounds_toArray, List.set_cons_zero, List.set_cons_succ]
    rfl
  refine take_ (i := 3) (N := some 94) (v := ?_) (a' := ?_) #[true, true, false, true, false, false, false, false, false, false, false, false, false, false, false, false, false, false, false, false, false, false, false, false, false, false, false, false, false] rfl rfl (by kernel_rfl) (fun _ _ _ h => h) (Or.inl ⟨by rfl, ?_⟩) hHeld ?_ ?_
  rotate_left
  · rintro w' ⟨s0, s1, s2, s3, s4, s5, s6, s7, s8, s9, s10, s11, s12⟩
    go_simp
    try with_reducible rfl
  rotate_left
  · simp only [Act.put, List.setIfInBounds_toArray, List.set_cons_zero, List.set_cons_succ]
    rfl
  refine take_ (i := 4) (N := some 95) (v := ?_) (a' := ?_) #[true, true, false, true, true, false, false, false, false, false, false, false, false, false, false, false, false, false, false, false, false, false, false, false, false, false, false, false, false] rfl rfl (by kernel_rfl) (fun _ _ _ h => h) (Or.inl ⟨by rfl, ?_⟩) hHeld ?_ ?_
  rotate_left
  · rintro w' ⟨s0, s1, s2, s3, s4, s5, s6, s7, s8, s9, s10, s11, s12⟩
    go_simp
    try with_reducible rfl
  rotate_left
  · simp only [Act.put, List.setIfInBounds_toArray, List.set_cons_zero, List.set_cons_succ]
    rfl
  refine one_ (i := 2) (N := some 93) #[true, true, true, true, true, false, false, false, false, false, false, false, false, false, false, false, false, false, false, false, false, false, false, false, false, false, false, false, false] rfl rfl (by kernel_rfl) (by decide) (fun K hK => ?_)
  go_simp
  refine (I16.out _ hHeld.1).mono ?_
  rintro e w11 ⟨rfl, hb11⟩
  refine hK.out _ _ (KK.out _ hb11) (fun hHeld => ?_)
  clear hK K
  try simp only [Act.put, List.setIfInBounds_toArray, List.set_cons_zero, List.set_cons_succ]
  refine one_ (i := 5) (N := some 96) #[true, true, true, true, true, true, false, false, false, false, false, false, false, false, false, false, false, false, false, false, false, false, false, false, false, false, false, false, false] rfl rfl (by kernel_rfl) (by decide) (fun K hK => ?_)
  go_simp
  refine (I26.out _ hHeld.1).mono ?_
  rintro e w12 ⟨rfl, hb12⟩
  refine hK.out _ _ (KK.out _ hb12) (fun hHeld => ?_)
  clear hK K
  try simp only [Act.put, List.setIfInBounds_toArray, List.set_cons_zero, List.set_cons_succ]
  refine pure_ (i := 6) (N := some 97) (v := ?_) (a' := ?_) #[true, true, true, true, true, true, true, false, false, false, false, false, false, false, false, false, false, false, false, false, false, false, false, false, false, false, false, false, false] rfl rfl (by kernel_rfl) (fun _ _ _ h => h) (Or.inl ⟨by rfl, ?_⟩) ?_ ?_
  rotate_left
  · intro w'
    go_simp
    try with_reducible rfl
  rotate_left
  · simp only [Act.put, List.setIfInBounds_toArray, List.set_cons_zero, List.set_cons_succ]
    rfl
  refine pure_ (i := 7) (N := some 98) (v := ?_) (a' := ?_) #[true, true, true, true, true, true, true, true, false, false, false, false, false, false, false, false, false, false, false, false, false, false, false, false, false, false, false, false, false] rfl rfl (by kernel_rfl) (fun _ _ _ h => h) (Or.inl ⟨by rfl, ?_⟩) ?_ ?_
  rotate_left
  · intro w'
    go_simp
    try with_reducible rfl
  rotate_left
  · simp only [Act.put, List.setIfInBounds_toArray, List.set_cons_zero, List.set_cons_succ]
    rfl
  refine take_ (i := 8) (N := some 99) (v := ?_) (a' := ?_) #[true, true, true, true, true, true, true, true, true, false, false, false, false, false, false, false, false, false, false, false, false, false, false, false, false, false, false, false, false] rfl rfl (by kernel_rfl) (fun _ _ _ h => h) (Or.inl ⟨by rfl, ?_⟩) hHeld ?_ ?_
  rotate_left
  · rintro w' ⟨s0, s1, s2, s3, s4, s5, s6, s7, s8, s9, s10, s11, s12⟩
    go_simp
    try with_reducible rfl
  rotate_left
  · simp only [Act.put, List.setIfInBounds_toArray, List.set_cons_zero, List.set_cons_succ]
    rfl
  refine pure_ (i := 9) (N := some 100) (v := ?_) (a' := ?_) #[true, true, true, true, true, true, true, true, true, true, false, false, false, false, false, false, false, false, false, false, false, false, false, false, false, false, false, false, false] rfl rfl (by kernel_rfl) (fun _ _ _ h => h) (Or.inl ⟨by rfl, ?_⟩) ?_ ?_
  rotate_left
  · intro w'
    go_simp
    try with_reducible rfl
  rotate_left
  · simp only [Act.put, List.setIfInBounds_toArray, List.set_cons_zero, List.set_cons_succ]
    rfl
  refine pure_ (i := 10) (N := some 101) (v := ?_) (a' := ?_) #[true, true, true, true, true, true, true, true, true, true, true, false, false, false, false, false, false, false, false, false, false, false, false, false, false, false, false, false, false] rfl rfl (by kernel_rfl) (fun _ _ _ h => h) (Or.inl ⟨by rfl, ?_⟩) ?_ ?_
  rotate_left
  · intro w'
    go_simp
    try with_reducible rfl
  rotate_left
  · simp only [Act.put, List.setIfInBounds_toArray, List.set_cons_zero, List.set_cons_succ]
    rfl
  refine take_ (i := 12) (N := some 103) (v := ?_) (a' := ?_) #[true, true, true, true, true, true, true, true, true, true, true, false, true, false, false, false, false, false, false, false, false, false, false, false, false, false, false, false, false] rfl rfl (by kernel_rfl) (fun _ _ _ h => h) (Or.inl ⟨by rfl, ?_⟩) hHeld ?_ ?_
  rotate_left
  · rintro w' ⟨s0, s1, s2, s3, s4, s5, s6, s7, s8, s9, s10, s11, s12⟩
    go_simp
    try with_reducible rfl
  rotate_left
  · simp only [Act.put, List.setIfInBounds_toArray, List.set_cons_zero, List.set_cons_succ]
    rfl
  refine pure_ (i := 13) (N := some 104) (v := ?_) (a' := ?_) #[true, true, true, true, true, true, true, true, true, true, true, false, true, true, false, false, false, false, false, false, false, false, false, false, false, false, false, false, false] rfl rfl (by kernel_rfl) (fun _ _ _ h => h) (Or.inl ⟨by rfl, ?_⟩) ?_ ?_
  rotate_left
  · intro w'
    go_simp
    try with_reducible rfl
  rotate_left
  · simp only [Act.put, List.setIfInBounds_toArray, List.set_cons_zero, List.set_cons_succ]
    rfl
  refine pure_ (i := 14) (N := some 105) (v := ?_) (a' := ?_) #[true, true, true, true, true, true, true, true, true, true, true, false, true, true, true, false, false, false, false, false, false, false, false, false, false, false, false, false, false] rfl rfl (by kernel_rfl) (fun _ _ _ h => h) (Or.inl ⟨by rfl, ?_⟩) ?_ ?_
  rotate_left
  · intro w'
    go_simp
    try with_reducible rfl
  rotate_left
  · simp only [Act.put, List.setIfInBounds_toArray, List.set_cons_zero, List.set_cons_succ]
    rfl
  refine one_ (i := 11) (N := some 102) #[true, true, true, true, true, true, true, true, true, true, true, true, true, true, true, false, false, false, false, false, false, false, false, false, false, false, false, false, false] rfl rfl (by kernel_rfl) (by decide) (fun K hK => ?_)
  go_simp
  refine (I27.out _ hHeld.1).mono ?_
  rintro e w13 ⟨rfl, hb13⟩
  refine hK.out _ _ (KK.out _ hb13) (fun hHeld => ?_)
  clear hK K
  try simp only [Act.put, List.setIfInBounds_toArray, List.set_cons_zero, List.set_cons_succ]
  refine one_ (i := 15) (N := some 106) #[true, true, true, true, true, true, true, true, true, true, true, true, true, true, true, true, false, false, false, false, false, false, false, false, false, false, false, false, false] rfl rfl (by kernel_rfl) (by decide) (fun K hK => ?_)
  go_simp
  refine (I28.out _ hHeld.1).mono ?_
  rintro e w14 ⟨rfl, hb14⟩
  refine hK.out _ _ (KK.out _ hb14) (fun hHeld => ?_)
  clear hK K
  try simp only [Act.put, List.setIfInBounds_toArray, List.set_cons_zero, List.set_cons_succ]
  refine pure_ (i := 16) (N := some 107) (v := ?_) (a' := ?_) #[true, true, true, true, true, true, true, true, true, true, true, true, true, true, true, true, true, false, false, false, false, false, false, false, false, false, false, false, false] rfl rfl (by kernel_rfl) (fun _ _ _ h => h) (Or.inl ⟨by rfl, ?_⟩) ?_ ?_
  rotate_left
  · intro w'
    go_simp
    try with_reducible rfl
  rotate_left
  · simp only [Act.put, List.setIfInBounds_toArray, List.set_cons_zero, List.set_cons_succ]
    rfl
  refine pure_ (i := 17) (N := some 108) (v := ?_) (a' := ?_) #[true, true, true, true, true, true, true, true, true, true, true, true, true, true, true, true, true, true, false, false, false, false, false, false, false, false, false, false, false] rfl rfl (by kernel_rfl) (fun _ _ _ h => h) (Or.inl ⟨by rfl, ?_⟩) ?_ ?_
  rotate_left
  · intro w'
    go_simp
    try with_reducible rfl
  rotate_left
  · simp only [Act.put, List.setIfInBounds_toArray, List.set_cons_zero, List.set_cons_succ]
    rfl
  refine pure_ (i := 18) (N := some 109) (v := ?_) (a' := ?_) #[true, true, true, true, true, true, true, true, true, true, true, true, true, true, true, true, true, true, true, false, false, false, false, false, false, false, false, false, false] rfl rfl (by kernel_rfl) (fun _ _ _ h => h) (Or.inl ⟨by rfl, ?_⟩) ?_ ?_
  rotate_left
  · intro w'
    go_simp
    try with_reducible rfl
  rotate_left
  · simp only [Act.put, List.setIfInBounds_toArray, List.set_cons_zero, List.set_cons_succ]
    rfl
  refine take_ (i := 19) (N := some 110) (v := ?_) (a' := ?_) #[true, true, true, true, true, true, true, true, true, true, true, true, true, true, true, true, true, true, true, true, false, false, false, false, false, false, false, false, false] rfl rfl (by kernel_rfl) (fun _ _ _ h => h) (Or.inl ⟨by rfl, ?_⟩) hHeld ?_ ?_
  rotate_left
  · rintro w' ⟨s0, s1, s2, s3, s4, s5, s6, s7, s8, s9, s10, s11, s12⟩
    go_simp
    try with_reducible rfl
  rotate_left
  · simp only [Act.put, List.setIfInBounds_toArray, List.set_cons_zero, List.set_cons_succ]
    rfl
  refine take_ (i := 21) (N := some 112) (v := ?_) (a' := ?_) #[true, true, true, true, true, true, true, true, true, true, true, true, true, true, true, true, true, true, true, true, false, true, false, false, false, false, false, false, false] rfl rfl (by kernel_rfl) (fun _ _ _ h => h) (Or.inl ⟨by rfl, ?_⟩) hHeld ?_ ?_
  rotate_left
  · rintro w' ⟨s0, s1, s2, s3, s4, s5, s6, s7, s8, s9, s10, s11, s12⟩
    go_simp
    try with_reducible rfl
  rotate_left
  · simp only [Act.put, List.setIfInBounds_toArray, List.set_cons_zero, List.set_cons_succ]
    rfl
  refine one_ (i := 20) (N := some 111) #[true, true, true, true, true, true, true, true, true, true, true, true, true, true, true, true, true, true, true, true, true, true, false, false, false, false, false, false, false] rfl rfl (by kernel_rfl) (by decide) (fun K hK => ?_)
  go_simp
  refine (I17.out _ hHeld.1).mono ?_
  rintro e w15 ⟨rfl, hb15⟩
  refine hK.out _ _ (KK.out _ hb15) (fun hHeld => ?_)
  clear hK K
  try simp only [Act.put, List.setIfInBounds_toArray, List.set_cons_zero, List.set_cons_succ]
  refine one_ (i := 22) (N := some 113) #[true, true, true, true, true, true, true, true, true, true, true, true, true, true, true, true, true, true, true, true, true, true, true, false, false, false, false, false, false] rfl rfl (by kernel_rfl) (by decide) (fun K hK => ?_)
  go_simp
  refine (I29.out _ hHeld.1).mono ?_
  rintro e w16 ⟨rfl, hb16⟩
  refine hK.out _ _ (KK.out _ hb16) (fun hHeld => ?_)
  clear hK K
  try simp only [Act.put, List.setIfInBounds_toArray, List.set_cons_zero, List.set_cons_succ]
  refine pure_ (i := 23) (N := some 114) (v := ?_) (a' := ?_) #[true, true, true, true, true, true, true, true, true, true, true, true, true, true, true, true, true, true, true, true, true, true, true, true, false, false, false, false, false] rfl rfl (by kernel_rfl) (fun _ _ _ h => h) (Or.inl ⟨by rfl, ?_⟩) ?_ ?_
  rotate_left
  · intro w'
    go_simp
    try with_reducible rfl
  rotate_left
  · simp only [Act.put, List.setIfInBounds_toArray, List.set_cons_zero, List.set_cons_succ]
    rfl
  refine pure_ (i := 24) (N := some 115) (v := ?_) (a' := ?_) #[true, true, true, true, true, true, true, true, true, true, true, true, true, true, true, true, true, true, true, true, true, true, true, true, true, false, false, false, false] rfl rfl (by kernel_rfl) (fun _ _ _ h => h) (Or.inl ⟨by rfl, ?_⟩) ?_ ?_
  rotate_left
  · intro w'
    go_simp
    try with_reducible rfl
  rotate_left
  · simp only [Act.put, List.setIfInBounds_toArray, List.set_cons_zero, List.set_cons_succ]
    rfl
  refine pure_ (i := 25) (N := some 116) (v := ?_) (a' := ?_) #[true, true, true, true, true, true, true, true, true, true, true, true, true, true, true, true, true, true, true, true, true, true, true, true, true, true, false, false, false] rfl rfl (by kernel_rfl) (fun _ _ _ h => h) (Or.inl ⟨by rfl, ?_⟩) ?_ ?_
  rotate_left
  · intro w'
    go_simp
    try with_reducible rfl
  rotate_left
  · simp only [Act.put, List.setIfInBounds_toArray, List.set_cons_zero, List.set_cons_succ]
    rfl
  refine one_ (i := 26) (N := some 117) #[true, true, true, true, true, true, true, true, true, true, true, true, true, true, true, true, true, true, true, true, true, true, true, true, true, true, true, false, false] rfl rfl (by kernel_rfl) (by decide) (fun K hK => ?_)
  go_simp
  refine (I13.out _ hHeld.1).mono ?_
  rintro e w19 ⟨rfl, hb19⟩
  refine hK.out _ _ (KK.out _ hb19) (fun hHeld => ?_)
  clear hK K
  try simp only [Act.put, List.setIfInBounds_toArray, List.set_cons_zero, List.set_cons_succ]
  refine pure_ (i := 27) (N := some 118) (v := ?_) (a' := ?_) #[true, true, true, true, true, true, true, true, true, true, true, true, true, true, true, true, true, true, true, true, true, true, true, true, true, true, true, true, false] rfl rfl (by kernel_rfl) (fun _ _ _ h => h) (Or.inl ⟨by rfl, ?_⟩) ?_ ?_
  rotate_left
  · intro w'
    go_simp
    try with_reducible rfl
  rotate_left
  · simp only [Act.put, List.setIfInBounds_toArray, List.set_cons_zero, List.set_cons_succ]
    rfl
  refine pure_ (i := 28) (N := some 12) (v := ?_) (a' := ?_) #[true, true, true, true, true, true, true, true, true, true, true, true, true, true, true, true, true, true, true, true, true, true, true, true, true, true, true, true, true] rfl rfl (by kernel_rfl) (fun _ _ _ h => h) (Or.inl ⟨by rfl, ?_⟩) ?_ ?_
  rotate_left
  · intro w'
    go_simp
    try with_reducible rfl
  rotate_left
  · simp only [Act.put, List.setIfInBounds_toArray, List.set_cons_zero, List.set_cons_succ]
    rfl
  refine done_ (by kernel_rfl) ?_
  go_wp2
  go_ret
  exact ⟨rfl, Below.trans HL8.out (hb19.mono HL8.out.size)⟩
end Go.Proofs.Ytpnkaoigpefmiaa
