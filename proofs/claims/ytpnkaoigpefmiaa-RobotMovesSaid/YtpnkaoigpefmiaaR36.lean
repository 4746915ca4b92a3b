/- The reference's Pick from a slot and the port. -/
import Derived.Test.YtpnkaoigpefmiaaR35
namespace Go.Proofs.Ytpnkaoigpefmiaa
open Go.RowKit
set_option linter.unusedVariables false
set_option linter.unusedSimpArgs false

set_option maxRecDepth 100000 in
set_option maxHeartbeats 600000 in
theorem rpick_at_none (m : Md) (r : Rb) (a : Option Addr) (c : Nat) (k i : Int) (b : ByteArray) (w : World) (hr : RobIn w r a c)
    (hi0 : -9223372036854775808 ≤ i) (hi1 : i ≤ 9223372036854775807) (p : Int) (hre : (reachOf m r k i).2.2 = 0) (hrp : rreachOf m r k i = p) (hp0 : -9223372036854775808 ≤ p ∧ p ≤ 9223372036854775807) (hm : 0 ≤ m.pick ∧ m.pick ≤ 1000000) (hh : r.hand = E0) (hk1 : k ≠ 1) (hkr : k = 0 → 0 ≤ i ∧ i.toNat < r.slots.length) (hbe : atOf r k i = E0) :
    Calls Try.prog 11 #[m.val, r.val a c, .agg #[.int .i64 k, .int .i64 i], .string b] w (GivesR w (R0, 0, 11)) := by
  have ht := travOf_in m r.pos p
  have HT := fun wx => Lib.hid (rtravel_any m r.pos p wx hr.lo hr.hi hp0.1 hp0.2)
  generalize travOf m r.pos p = t at *
  obtain ⟨f0, f1, f2, f3, f4, f5, f6⟩ := m
  obtain ⟨p0, fl, ss, pt, ha⟩ := r
  have X0 := B4.start w f0 f1 f2 f3 f4 f5 f6 ⟨p0, fl, ss, pt, ha⟩ a c k i
  have V := Lib.hid (rreach_any ⟨f0, f1, f2, f3, f4, f5, f6⟩ ⟨p0, fl, ss, pt, ha⟩ a c k i _ (hr.below X0.low) hi0 hi1)
  have HX0 := Lib.hid X0
  rw [hre, hrp] at V
  clear X0 hre hrp
  have t0 := ht.1
  have t1 := ht.2
  have u0 := hm.1
  have u1 := hm.2
  dsimp only at u0 u1
  clear ht hm
  have HF : ∀ wx, Below w.heap.size w wx → Hid (Calls Try.prog 33 #[(⟨p0, fl, ss, pt, ha⟩ : Rb).val a c, .agg #[.int .i64 k, .int .i64 i]] wx fun e w' => e = .returned (.string (atOf ⟨p0, fl, ss, pt, ha⟩ k i)) ∧ Below wx.heap.size wx w') := fun wx hb => Lib.hid (rat_any ⟨p0, fl, ss, pt, ha⟩ a c k i wx (hr.strs.below hb) hr.cap hr.len hkr)
  rw [hbe] at HF
  have q6 : (k == 1) = false := beq_eq_false_iff_ne.2 hk1
  dsimp only at hh
  subst hh
  clear hr hbe HT hkr hk1
  unfold Md.val Rb.val E0 at *
  go_enter Try.func11, Try.ntmps11
  go_wp2_with fail
  refine V.out.mono ?_
  rintro e w1 ⟨rfl, hb1⟩
  have X1 := HX0.out.next hb1
  have HX1 := Lib.hid X1
  have HB1 := Lib.hid X1.low
  obtain ⟨b0, b1, b2, b3, b4⟩ := X1.r.at5
  obtain ⟨m0, m1, m2, m3, m4, m5, m6, m7⟩ := X1.m
  have j0 := X1.e.g0
  have j1 := X1.e.g1
  dsimp only at b0 b1 b2 b3 b4
  clear HX0 V hb1 X1
  go_wp2_with fail
  refine (HF _ HB1.out).out.mono ?_
  rintro e w4 ⟨rfl, hb4⟩
  have X4 := HX1.out.next hb4
  have l3 : w.heap.size + 1 + 1 + 1 < w4.heap.size := X4.z.lt
  have HE := Lib.hid ((X4.z.five (.int .i64 0) (.bool false) (.slice none 0 0) (.string E0) (.string E0))).at5
  have HL5 := Lib.hid (below_five X4.low (by omega : w.heap.size ≤ w.heap.size + 3) (.int .i64 0) (.bool false) (.slice none 0 0) (.string E0) (.string E0))
  obtain ⟨c0, c1', c2, c3, c4⟩ := X4.z.at5
  have hz := fun j => X4.z.free j
  unfold E0 at c3 c4
  clear X4 HX1 hb4 HF
  go_wp2
  obtain ⟨g0, g1, g2, g3, g4⟩ := HE.out
  unfold E0 at g0 g1 g2 g3 g4
  rw [show w.heap.size + 3 = w.heap.size + 1 + 1 + 1 from rfl] at g0 g1 g2 g3 g4
  refine bodyPost_ret (v := .tuple #[.agg #[.int .i64 0, .bool false, .slice none 0 0, .string E0, .string E0], .int .i64 0, .int .i64 11]) (by simp [results, Try.results11, go_sem, E0, g0, g1, g2, g3, g4]) rfl ?_
  exact givesR0 HL5.out
set_option maxRecDepth 100000 in
set_option maxHeartbeats 600000 in
theorem rpick_at (m : Md) (r : Rb) (a : Option Addr) (c : Nat) (k i : Int) (b : ByteArray) (w : World) (hr : RobIn w r a c)
    (hi0 : -9223372036854775808 ≤ i) (hi1 : i ≤ 9223372036854775807) (p : Int) (hre : (reachOf m r k i).2.2 = 0) (hrp : rreachOf m r k i = p) (hp0 : -9223372036854775808 ≤ p ∧ p ≤ 9223372036854775807) (hm : 0 ≤ m.pick ∧ m.pick ≤ 1000000) (hh : r.hand = E0) (hk1 : k ≠ 1) (hkr : k = 0 → 0 ≤ i ∧ i.toNat < r.slots.length) (s : ByteArray) (hs : atOf r k i = s) (hbe : s ≠ E0) (o : Rb × Int × Int) (ho : o = ({ withOf r k i E0 with pos := p, hand := s }, travOf m r.pos p + m.pick, 0)) :
    Calls Try.prog 11 #[m.val, r.val a c, .agg #[.int .i64 k, .int .i64 i], .string b] w (GivesR w o) := by
  have ht := travOf_in m r.pos p
  have HT := fun wx => Lib.hid (rtravel_any m r.pos p wx hr.lo hr.hi hp0.1 hp0.2)
  generalize travOf m r.pos p = t at *
  obtain ⟨f0, f1, f2, f3, f4, f5, f6⟩ := m
  obtain ⟨p0, fl, ss, pt, ha⟩ := r
  have X0 := B4.start w f0 f1 f2 f3 f4 f5 f6 ⟨p0, fl, ss, pt, ha⟩ a c k i
  have V := Lib.hid (rreach_any ⟨f0, f1, f2, f3, f4, f5, f6⟩ ⟨p0, fl, ss, pt, ha⟩ a c k i _ (hr.below X0.low) hi0 hi1)
  have HX0 := Lib.hid X0
  rw [hre, hrp] at V
  clear X0 hre hrp
  have t0 := ht.1
  have t1 := ht.2
  have u0 := hm.1
  have u1 := hm.2
  dsimp only at u0 u1
  clear ht hm
  have HF : ∀ wx, Below w.heap.size w wx → Hid (Calls Try.prog 33 #[(⟨p0, fl, ss, pt, ha⟩ : Rb).val a c, .agg #[.int .i64 k, .int .i64 i]] wx fun e w' => e = .returned (.string (atOf ⟨p0, fl, ss, pt, ha⟩ k i)) ∧ Below wx.heap.size wx w') := fun wx hb => Lib.hid (rat_any ⟨p0, fl, ss, pt, ha⟩ a c k i wx (hr.strs.below hb) hr.cap hr.len hkr)
  rw [hs] at HF
  have q6 : (k == 1) = false := beq_eq_false_iff_ne.2 hk1
  have HC : ∀ wx, Below w.heap.size w wx → Hid (Calls Try.prog 34 #[(⟨p0, fl, ss, pt, ha⟩ : Rb).val a c, .agg #[.int .i64 k, .int .i64 i], .string E0] wx fun e w' => ∃ a' c', e = .returned ((withOf ⟨p0, fl, ss, pt, ha⟩ k i E0).val a' c') ∧ w'.ownsRow wx.heap.size 9 1 (.slice a' (withOf ⟨p0, fl, ss, pt, ha⟩ k i E0).slots.length c') (withOf ⟨p0, fl, ss, pt, ha⟩ k i E0).slots.length ((withOf ⟨p0, fl, ss, pt, ha⟩ k i E0).slots.map Value.string) ∧ Below wx.heap.size wx w') := fun wx hb => Lib.hid (rwith_any ⟨p0, fl, ss, pt, ha⟩ a c k i E0 wx (hr.strs.below hb) hr.cap hr.nil hr.len hkr)
  obtain ⟨rr, hrr⟩ : ∃ rr, withOf ⟨p0, fl, ss, pt, ha⟩ k i E0 = rr := ⟨_, rfl⟩
  rw [hrr] at HC ho
  have HRR := Lib.hid ho
  clear hrr ho
  have q5 := ne_isEmpty hbe
  dsimp only at hh
  subst hh
  clear hr hbe hkr hk1 hp0 hi0 hi1 hs
  unfold Md.val Rb.val E0 at *
  go_enter Try.func11, Try.ntmps11
  go_wp2_with fail
  refine V.out.mono ?_
  rintro e w1 ⟨rfl, hb1⟩
  have X1 := HX0.out.next hb1
  have HX1 := Lib.hid X1
  have HB1 := Lib.hid X1.low
  obtain ⟨b0, b1, b2, b3, b4⟩ := X1.r.at5
  obtain ⟨m0, m1, m2, m3, m4, m5, m6, m7⟩ := X1.m
  have j0 := X1.e.g0
  have j1 := X1.e.g1
  dsimp only at b0 b1 b2 b3 b4
  clear HX0 V hb1 X1
  go_wp2_with fail
  refine (HF _ HB1.out).out.mono ?_
  rintro e w4 ⟨rfl, hb4⟩
  have X4 := HX1.out.next hb4
  have l3 : w.heap.size + 1 + 1 + 1 < w4.heap.size := X4.z.lt
  clear HX1 hb4 HF HB1
  go_wp2
  have K : ∀ wx, Below w4.heap.size w4 wx → Below w4.heap.size w4 wx ∧ (wx.cell? ⟨w.heap.size, 0, none⟩ = some (.int .i64 f0) ∧ wx.cell? ⟨w.heap.size, 1, none⟩ = some (.int .i64 f1) ∧ wx.cell? ⟨w.heap.size, 2, none⟩ = some (.int .i64 f2) ∧ wx.cell? ⟨w.heap.size, 3, none⟩ = some (.int .i64 f3) ∧ wx.cell? ⟨w.heap.size, 4, none⟩ = some (.int .i64 f4) ∧ wx.cell? ⟨w.heap.size, 5, none⟩ = some (.int .i64 f5) ∧ wx.cell? ⟨w.heap.size, 6, none⟩ = some (.int .i64 f6)) ∧ wx.cell? ⟨w.heap.size + 1, 0, none⟩ = some (.int .i64 p0) := fun wx hb => by
    have X := X4.next hb
    have M := X.m
    exact ⟨hb, ⟨M.g0, M.g1, M.g2, M.g3, M.g4, M.g5, M.g6⟩, X.r.at5.1⟩
  have I1 : Hid (∀ wx, Below w4.heap.size w4 wx → Calls Try.prog 28 #[.agg #[.int .i64 f0, .int .i64 f1, .int .i64 f2, .int .i64 f3, .int .i64 f4, .int .i64 f5, .int .i64 f6], .int .i64 p0, .int .i64 p] wx fun e w' => e = .returned (.int .i64 t) ∧ Below w4.heap.size w4 w') := Lib.hid fun wx hb => (HT wx).out.mono fun e w' h => ⟨h.1, Below.next hb h.2⟩
  have S0 := K w4.drew (Below.refl _ _).drew
  have KK := Lib.hid K
  have HX4 := Lib.hid X4
  clear K HT X4
  go_region_held3 (fun wx => Below w4.heap.size w4 wx ∧ (wx.cell? ⟨w.heap.size, 0, none⟩ = some (.int .i64 f0) ∧ wx.cell? ⟨w.heap.size, 1, none⟩ = some (.int .i64 f1) ∧ wx.cell? ⟨w.heap.size, 2, none⟩ = some (.int .i64 f2) ∧ wx.cell? ⟨w.heap.size, 3, none⟩ = some (.int .i64 f3) ∧ wx.cell? ⟨w.heap.size, 4, none⟩ = some (.int .i64 f4) ∧ wx.cell? ⟨w.heap.size, 5, none⟩ = some (.int .i64 f5) ∧ wx.cell? ⟨w.heap.size, 6, none⟩ = some (.int .i64 f6)) ∧ wx.cell? ⟨w.heap.size + 1, 0, none⟩ = some (.int .i64 p0)) (with_reducible first | assumption | exact S0 | exact KK.out _ (by assumption)) (first | (go_at_call 28; (with_reducible refine (I1.out _ ?_).mono ?_); (go_split_ands; with_reducible assumption); rintro e w6 ⟨rfl, hb6⟩))
  rw [show IntKind.i64.wrap (t + f5) = t + f5 from IntWalk.i64_in _ (by omega)]
  clear b0 b1 b2 b3 b4 m0 m1 m2 m3 m4 m5 m6 m7 j0 j1
  have X6 := HX4.out.next hb6
  have HX6 := Lib.hid X6
  have HC6 := HC _ X6.low
  obtain ⟨b0, b1, b2, b3, b4⟩ := X6.r.at5
  obtain ⟨m0, m1, m2, m3, m4, m5, m6, m7⟩ := X6.m
  have j0 := X6.e.g0
  have j1 := X6.e.g1
  try unfold E0 at HC6
  dsimp only at b0 b1 b2 b3 b4
  try unfold E0 at b4
  clear HC KK I1 S0 HX4 hb6 X6
  go_wp2_with fail
  refine HC6.out.mono ?_
  rintro e w7 ⟨a7, c7, rfl, hown7, hb7⟩
  have X7 := HX6.out.next hb7
  have hs7 := HX6.out.z.lt
  have ho7 := ownsRow_mono hown7 (by omega : w.heap.size + 4 ≤ w6.heap.size)
  obtain ⟨q0, q1, qs, q3, q4⟩ := rr
  dsimp only at ho7
  clear b0 b1 b2 b3 b4 m0 m1 m2 m3 m4 m5 m6 m7 j0 j1
  obtain ⟨b0, b1, b2, b3, b4⟩ := X7.r.at5
  have bf := fun j => X7.r.free j
  obtain ⟨z0, z1, z2, z3, z4⟩ := X7.z.at5
  have zf := fun j => X7.z.free j
  unfold E0 at z3 z4
  have R8 := ((X7.r.five (.int .i64 q0) (.bool q1) (.slice a7 qs.length c7) (.string q3) (.string q4)).set 0 (.int .i64 p)).set 4 (.string s)
  simp only [List.setIfInBounds_toArray, List.set_cons_zero, List.set_cons_succ] at R8
  have Z8 := (((X7.z.other5 (by omega : w.heap.size + 3 ≠ w.heap.size + 1) (.int .i64 q0) (.bool q1) (.slice a7 qs.length c7) (.string q3) (.string q4)).other 0 (by omega : w.heap.size + 3 ≠ w.heap.size + 1) (.int .i64 p)).other 4 (by omega : w.heap.size + 3 ≠ w.heap.size + 1) (.string s))
  have HZ8 := Lib.hid Z8
  have HF8 := Lib.hid (Z8.five (.int .i64 p) (.bool q1) (.slice a7 qs.length c7) (.string q3) (.string s)).at5
  have HL8 := Lib.hid (below_five (below_set (below_set (below_five X7.low (by omega : w.heap.size ≤ w.heap.size + 1) (.int .i64 q0) (.bool q1) (.slice a7 qs.length c7) (.string q3) (.string q4)) (by omega : w.heap.size ≤ w.heap.size + 1) 0 (.int .i64 p)) (by omega : w.heap.size ≤ w.heap.size + 1) 4 (.string s)) (by omega : w.heap.size ≤ w.heap.size + 3) (.int .i64 p) (.bool q1) (.slice a7 qs.length c7) (.string q3) (.string s))
  have HO8 := Lib.hid (ownsRow_mono (ownsRow_five (B := w.heap.size + 3) (ownsRow_setCell (B := w.heap.size + 1) (j := 4) (u := .string s) (ownsRow_setCell (B := w.heap.size + 1) (j := 0) (u := .int .i64 p) (ownsRow_five (B := w.heap.size + 1) ho7 (by omega) (.int .i64 q0) (.bool q1) (.slice a7 qs.length c7) (.string q3) (.string q4)) (by omega)) (by omega)) (by omega) (.int .i64 p) (.bool q1) (.slice a7 qs.length c7) (.string q3) (.string s)) (by omega : w.heap.size ≤ w.heap.size + 4))
  have HR8 := Lib.hid R8
  clear X7 HX6 R8 Z8 ho7 hown7 hb7 HC6
  have n1 : w.heap.size + 1 ≠ w.heap.size + 1 + 1 + 1 := by omega
  have n2 : w.heap.size + 1 + 1 + 1 ≠ w.heap.size + 1 := by omega
  have n3 : w.heap.size + 1 ≠ w.heap.size + 3 := by omega
  have n4 : w.heap.size + 3 ≠ w.heap.size + 1 := by omega
  try unfold Rb.val
  dsimp only
  dsimp only at b0 b1 b2 b3 b4
  iterate 37 (first | go_skip | go_guarded | go_step | go_upon)
  obtain ⟨w8, hw8⟩ : ∃ w8, w8 = (((((((w7.setCell ⟨w.heap.size + 1, 0, none⟩ (.int .i64 q0)).setCell ⟨w.heap.size + 1, 1, none⟩ (.bool q1)).setCell ⟨w.heap.size + 1, 2, none⟩ (.slice a7 qs.length c7)).setCell ⟨w.heap.size + 1, 3, none⟩ (.string q3)).setCell ⟨w.heap.size + 1, 4, none⟩ (.string q4)).setCell ⟨w.heap.size + 1, 0, none⟩ (.int .i64 p)).setCell ⟨w.heap.size + 1, 4, none⟩ (.string s)) := ⟨_, rfl⟩
  have ZZ := HZ8.out
  rw [← hw8] at HR8 ZZ HF8 HL8 HO8 ⊢
  clear hw8 b0 b1 b2 b3 b4 bf z0 z1 z2 z3 z4 zf HZ8
  obtain ⟨b0, b1, b2, b3, b4⟩ := HR8.out.at5
  obtain ⟨z0, z1, z2, z3, z4⟩ := ZZ.at5
  have zf := fun j => ZZ.free j
  clear HR8 ZZ
  unfold E0 at z3 z4
  go_wp2
  obtain ⟨g0, g1, g2, g3, g4⟩ := HF8.out
  rw [show w.heap.size + 3 = w.heap.size + 1 + 1 + 1 from rfl] at g0 g1 g2 g3 g4
  refine bodyPost_ret (v := .tuple #[.agg #[.int .i64 p, .bool q1, .slice a7 qs.length c7, .string q3, .string s], .int .i64 (t + f5), .int .i64 0]) (by simp [results, Try.results11, go_sem, g0, g1, g2, g3, g4]) rfl ?_
  rw [HRR.out]
  exact ⟨a7, c7, rfl, HO8.out, HL8.out⟩
end Go.Proofs.Ytpnkaoigpefmiaa
