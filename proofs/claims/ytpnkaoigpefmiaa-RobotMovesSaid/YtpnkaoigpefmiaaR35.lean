/- The reference's Pick. -/
import Derived.Test.YtpnkaoigpefmiaaR34
import Derived.Deep.RegionHeld3
namespace Go.Proofs.Ytpnkaoigpefmiaa
open Go.RowKit
set_option linter.unusedVariables false
set_option linter.unusedSimpArgs false

theorem withOf_len (r : Rb) (k i : Int) (b : ByteArray) : (withOf r k i b).slots.length = r.slots.length := by
  unfold withOf
  by_cases h : k = 0
  · rw [if_pos h]; simp
  · rw [if_neg h]
    by_cases h2 : k = 2
    · rw [if_pos h2]
    · rw [if_neg h2]
theorem rwith_any (r : Rb) (a : Option Addr) (c : Nat) (k i : Int) (b : ByteArray) (w : World) (hx : Strs w a r.slots) (hc : r.slots.length ≤ c) (hnil : a = none → c = 0) (hl : r.slots.length ≤ 1000000) (hk : k = 0 → 0 ≤ i ∧ i.toNat < r.slots.length) :
    Calls Try.prog 34 #[r.val a c, .agg #[.int .i64 k, .int .i64 i], .string b] w fun e w' => ∃ a' c', e = .returned ((withOf r k i b).val a' c') ∧ w'.ownsRow w.heap.size 9 1 (.slice a' (withOf r k i b).slots.length c') (withOf r k i b).slots.length ((withOf r k i b).slots.map Value.string) ∧ Below w.heap.size w w' := by
  rw [withOf_len]
  by_cases h : k = 0
  · obtain ⟨h0, h1⟩ := hk h
    subst h
    obtain ⟨j, rfl⟩ := Int.eq_ofNat_of_zero_le h0
    exact rwith_slot r a c j b w hx hc hnil hl (by simpa using h1)
  · by_cases h2 : k = 2
    · subst h2
      exact rwith_port r a c i b w hx hc hnil hl
    · rw [show withOf r k i b = r by unfold withOf; rw [if_neg h, if_neg h2]]
      exact rwith_none r a c k i b w hx hc hnil hl (beq_eq_false_iff_ne.2 h) (beq_eq_false_iff_ne.2 h2)
theorem Blk.other5 {W : World} {B B' : Nat} {t : TypeId} {cs : Array Value} (h : Blk W B t cs) (hne : B ≠ B') (v0 v1 v2 v3 v4 : Value) :
    Blk (((((W.setCell ⟨B', 0, none⟩ v0).setCell ⟨B', 1, none⟩ v1).setCell ⟨B', 2, none⟩ v2).setCell ⟨B', 3, none⟩ v3).setCell ⟨B', 4, none⟩ v4) B t cs :=
  ((((h.other 0 hne v0).other 1 hne v1).other 2 hne v2).other 3 hne v3).other 4 hne v4
set_option maxRecDepth 100000 in
set_option maxHeartbeats 600000 in
theorem rpick_err (m : Md) (r : Rb) (a : Option Addr) (c : Nat) (k i : Int) (b : ByteArray) (w : World) (hr : RobIn w r a c)
    (hi0 : -9223372036854775808 ≤ i) (hi1 : i ≤ 9223372036854775807) (he : (reachOf m r k i).2.2 ≠ 0) :
    Calls Try.prog 11 #[m.val, r.val a c, .agg #[.int .i64 k, .int .i64 i], .string b] w (GivesR w (pickOf m r k i b)) := by
  have HV := Lib.hid (show pickOf m r k i b = (R0, 0, (reachOf m r k i).2.2) by rw [pickOf, if_pos he])
  obtain ⟨f0, f1, f2, f3, f4, f5, f6⟩ := m
  have X0 := B4.start w f0 f1 f2 f3 f4 f5 f6 r a c k i
  have V := Lib.hid (rreach_any ⟨f0, f1, f2, f3, f4, f5, f6⟩ r a c k i _ (hr.below X0.low) hi0 hi1)
  have HX0 := Lib.hid X0
  generalize (reachOf ⟨f0, f1, f2, f3, f4, f5, f6⟩ r k i).2.2 = er at *
  generalize rreachOf ⟨f0, f1, f2, f3, f4, f5, f6⟩ r k i = rp at *
  have hq : (er != 0) = true := by rw [bne_iff_ne]; exact he
  clear X0 hr he
  unfold Md.val Rb.val E0 at *
  go_enter Try.func11, Try.ntmps11
  go_wp2_with fail
  refine V.out.mono ?_
  rintro e w1 ⟨rfl, hb1⟩
  have X1 := HX0.out.next hb1
  have hlt := X1.z.lt
  have HE := Lib.hid ((X1.z.five (.int .i64 0) (.bool false) (.slice none 0 0) (.string E0) (.string E0))).at5
  have HL5 := Lib.hid (below_five X1.low (by omega : w.heap.size ≤ w.heap.size + 3) (.int .i64 0) (.bool false) (.slice none 0 0) (.string E0) (.string E0))
  obtain ⟨c0, c1', c2, c3, c4⟩ := X1.z.at5
  have hz := fun j => X1.z.free j
  unfold E0 at c3 c4
  clear X1 HX0 V hb1
  go_wp2
  obtain ⟨g0, g1, g2, g3, g4⟩ := HE.out
  unfold E0 at g0 g1 g2 g3 g4
  rw [show w.heap.size + 3 = w.heap.size + 1 + 1 + 1 from rfl] at g0 g1 g2 g3 g4
  refine bodyPost_ret (v := .tuple #[.agg #[.int .i64 0, .bool false, .slice none 0 0, .string E0, .string E0], .int .i64 0, .int .i64 er]) (by simp [results, Try.results11, go_sem, E0, g0, g1, g2, g3, g4]) rfl ?_
  rw [HV.out]; exact givesR0 HL5.out
set_option maxRecDepth 100000 in
set_option maxHeartbeats 600000 in
theorem rpick_busy (m : Md) (r : Rb) (a : Option Addr) (c : Nat) (k i : Int) (b : ByteArray) (w : World) (hr : RobIn w r a c)
    (hi0 : -9223372036854775808 ≤ i) (hi1 : i ≤ 9223372036854775807) (p : Int) (hre : (reachOf m r k i).2.2 = 0) (hrp : rreachOf m r k i = p) (hp0 : -9223372036854775808 ≤ p ∧ p ≤ 9223372036854775807) (hm : 0 ≤ m.pick ∧ m.pick ≤ 1000000) (hh : r.hand ≠ E0) :
    Calls Try.prog 11 #[m.val, r.val a c, .agg #[.int .i64 k, .int .i64 i], .string b] w (GivesR w (R0, 0, 14)) := by
  have ht := travOf_in m r.pos p
  have HT := fun wx => Lib.hid (rtravel_any m r.pos p wx hr.lo hr.hi hp0.1 hp0.2)
  generalize travOf m r.pos p = t at *
  obtain ⟨f0, f1, f2, f3, f4, f5, f6⟩ := m
  obtain ⟨p0, fl, ss, pt, ha⟩ := r
  have X0 := B4.start w f0 f1 f2 f3 f4 f5 f6 ⟨p0, fl, ss, pt, ha⟩ a c k i
  have V := Lib.hid (rreach_any ⟨f0, f1, f2, f3, f4, f5, f6⟩ ⟨p0, fl, ss, pt, ha⟩ a c k i _ (hr.below X0.low) hi0 hi1)
  have HX0 := Lib.hid X0
  rw [hre, hrp] at V
  clear X0 hre hrp
  have t0 := ht.1
  have t1 := ht.2
  have u0 := hm.1
  have u1 := hm.2
  dsimp only at u0 u1
  clear ht hm
  have q5 := ne_isEmpty hh
  dsimp only at q5
  clear hh hr HT
  unfold Md.val Rb.val E0 at *
  go_enter Try.func11, Try.ntmps11
  go_wp2_with fail
  refine V.out.mono ?_
  rintro e w1 ⟨rfl, hb1⟩
  have X1 := HX0.out.next hb1
  have HX1 := Lib.hid X1
  have HB1 := Lib.hid X1.low
  obtain ⟨b0, b1, b2, b3, b4⟩ := X1.r.at5
  obtain ⟨m0, m1, m2, m3, m4, m5, m6, m7⟩ := X1.m
  have j0 := X1.e.g0
  have j1 := X1.e.g1
  dsimp only at b0 b1 b2 b3 b4
  have HE := Lib.hid ((X1.z.five (.int .i64 0) (.bool false) (.slice none 0 0) (.string E0) (.string E0))).at5
  have HL5 := Lib.hid (below_five X1.low (by omega : w.heap.size ≤ w.heap.size + 3) (.int .i64 0) (.bool false) (.slice none 0 0) (.string E0) (.string E0))
  obtain ⟨c0, c1', c2, c3, c4⟩ := X1.z.at5
  have hz := fun j => X1.z.free j
  unfold E0 at c3 c4
  clear X1 HX0 V hb1 HX1
  go_wp2
  obtain ⟨g0, g1, g2, g3, g4⟩ := HE.out
  unfold E0 at g0 g1 g2 g3 g4
  rw [show w.heap.size + 3 = w.heap.size + 1 + 1 + 1 from rfl] at g0 g1 g2 g3 g4
  refine bodyPost_ret (v := .tuple #[.agg #[.int .i64 0, .bool false, .slice none 0 0, .string E0, .string E0], .int .i64 0, .int .i64 14]) (by simp [results, Try.results11, go_sem, E0, g0, g1, g2, g3, g4]) rfl ?_
  exact givesR0 HL5.out
set_option maxRecDepth 100000 in
set_option maxHeartbeats 600000 in
theorem rpick_drive_twice (m : Md) (r : Rb) (a : Option Addr) (c : Nat) (i : Int) (b : ByteArray) (w : World) (hr : RobIn w r a c)
    (hi0 : -9223372036854775808 ≤ i) (hi1 : i ≤ 9223372036854775807) (p : Int) (hre : (reachOf m r 1 i).2.2 = 0) (hrp : rreachOf m r 1 i = p) (hp0 : -9223372036854775808 ≤ p ∧ p ≤ 9223372036854775807) (hm : 0 ≤ m.pick ∧ m.pick ≤ 1000000) (hh : r.hand = E0) (hbe : b ≠ E0) (hf : (findOf r b).2.2 = true) :
    Calls Try.prog 11 #[m.val, r.val a c, .agg #[.int .i64 1, .int .i64 i], .string b] w (GivesR w (R0, 0, 8)) := by
  have ht := travOf_in m r.pos p
  have HT := fun wx => Lib.hid (rtravel_any m r.pos p wx hr.lo hr.hi hp0.1 hp0.2)
  generalize travOf m r.pos p = t at *
  obtain ⟨f0, f1, f2, f3, f4, f5, f6⟩ := m
  obtain ⟨p0, fl, ss, pt, ha⟩ := r
  have X0 := B4.start w f0 f1 f2 f3 f4 f5 f6 ⟨p0, fl, ss, pt, ha⟩ a c 1 i
  have V := Lib.hid (rreach_any ⟨f0, f1, f2, f3, f4, f5, f6⟩ ⟨p0, fl, ss, pt, ha⟩ a c 1 i _ (hr.below X0.low) hi0 hi1)
  have HX0 := Lib.hid X0
  rw [hre, hrp] at V
  clear X0 hre hrp
  have t0 := ht.1
  have t1 := ht.2
  have u0 := hm.1
  have u1 := hm.2
  dsimp only at u0 u1
  clear ht hm
  have HF : ∀ wx, Below w.heap.size w wx → Hid (Calls Try.prog 23 #[(⟨p0, fl, ss, pt, ha⟩ : Rb).val a c, .string b] wx fun e w' => e = .returned (.tuple #[.agg #[.int .i64 (findOf ⟨p0, fl, ss, pt, ha⟩ b).1, .int .i64 (findOf ⟨p0, fl, ss, pt, ha⟩ b).2.1], .bool true]) ∧ Below wx.heap.size wx w') := fun wx hb => Lib.hid (by rw [← hf]; exact rfind_any ⟨p0, fl, ss, pt, ha⟩ a c b wx (hr.strs.below hb) hr.cap hr.len)
  generalize (findOf ⟨p0, fl, ss, pt, ha⟩ b).1 = y1 at *
  generalize (findOf ⟨p0, fl, ss, pt, ha⟩ b).2.1 = y2 at *
  have q5 := ne_isEmpty hbe
  dsimp only at hh
  subst hh
  clear hf hr hbe HT
  unfold Md.val Rb.val E0 at *
  go_enter Try.func11, Try.ntmps11
  go_wp2_with fail
  refine V.out.mono ?_
  rintro e w1 ⟨rfl, hb1⟩
  have X1 := HX0.out.next hb1
  have HX1 := Lib.hid X1
  have HB1 := Lib.hid X1.low
  obtain ⟨b0, b1, b2, b3, b4⟩ := X1.r.at5
  obtain ⟨m0, m1, m2, m3, m4, m5, m6, m7⟩ := X1.m
  have j0 := X1.e.g0
  have j1 := X1.e.g1
  dsimp only at b0 b1 b2 b3 b4
  clear HX0 V hb1 X1
  go_wp2_with fail
  refine (HF _ HB1.out).out.mono ?_
  rintro e w4 ⟨rfl, hb4⟩
  have X4 := HX1.out.next hb4
  have l3 : w.heap.size + 1 + 1 + 1 < w4.heap.size := X4.z.lt
  have HE := Lib.hid ((X4.z.five (.int .i64 0) (.bool false) (.slice none 0 0) (.string E0) (.string E0)).alloc (.cells #[.int .i64 y1, .int .i64 y2] 28)).at5
  have HL5 := Lib.hid (below_five X4.low (by omega : w.heap.size ≤ w.heap.size + 3) (.int .i64 0) (.bool false) (.slice none 0 0) (.string E0) (.string E0))
  obtain ⟨c0, c1', c2, c3, c4⟩ := X4.z.at5
  have hz := fun j => X4.z.free j
  unfold E0 at c3 c4
  clear X4 HX1 hb4 HF
  go_wp2
  obtain ⟨g0, g1, g2, g3, g4⟩ := HE.out
  unfold E0 at g0 g1 g2 g3 g4
  rw [show w.heap.size + 3 = w.heap.size + 1 + 1 + 1 from rfl] at g0 g1 g2 g3 g4
  refine bodyPost_ret (v := .tuple #[.agg #[.int .i64 0, .bool false, .slice none 0 0, .string E0, .string E0], .int .i64 0, .int .i64 8]) (by simp [results, Try.results11, go_sem, E0, g0, g1, g2, g3, g4]) rfl ?_
  exact givesR0 (below_alloc' HL5.out _)
set_option maxRecDepth 100000 in
set_option maxHeartbeats 600000 in
theorem rpick_drive_none (m : Md) (r : Rb) (a : Option Addr) (c : Nat) (i : Int) (b : ByteArray) (w : World) (hr : RobIn w r a c)
    (hi0 : -9223372036854775808 ≤ i) (hi1 : i ≤ 9223372036854775807) (p : Int) (hre : (reachOf m r 1 i).2.2 = 0) (hrp : rreachOf m r 1 i = p) (hp0 : -9223372036854775808 ≤ p ∧ p ≤ 9223372036854775807) (hm : 0 ≤ m.pick ∧ m.pick ≤ 1000000) (hh : r.hand = E0) (hbe : b = E0)  :
    Calls Try.prog 11 #[m.val, r.val a c, .agg #[.int .i64 1, .int .i64 i], .string b] w (GivesR w (R0, 0, 8)) := by
  have ht := travOf_in m r.pos p
  have HT := fun wx => Lib.hid (rtravel_any m r.pos p wx hr.lo hr.hi hp0.1 hp0.2)
  generalize travOf m r.pos p = t at *
  obtain ⟨f0, f1, f2, f3, f4, f5, f6⟩ := m
  obtain ⟨p0, fl, ss, pt, ha⟩ := r
  have X0 := B4.start w f0 f1 f2 f3 f4 f5 f6 ⟨p0, fl, ss, pt, ha⟩ a c 1 i
  have V := Lib.hid (rreach_any ⟨f0, f1, f2, f3, f4, f5, f6⟩ ⟨p0, fl, ss, pt, ha⟩ a c 1 i _ (hr.below X0.low) hi0 hi1)
  have HX0 := Lib.hid X0
  rw [hre, hrp] at V
  clear X0 hre hrp
  have t0 := ht.1
  have t1 := ht.2
  have u0 := hm.1
  have u1 := hm.2
  dsimp only at u0 u1
  clear ht hm
  obtain ⟨ud, hf⟩ : ∃ ud, (findOf ⟨p0, fl, ss, pt, ha⟩ b).2.2 = ud := ⟨_, rfl⟩
  have HF : ∀ wx, Below w.heap.size w wx → Hid (Calls Try.prog 23 #[(⟨p0, fl, ss, pt, ha⟩ : Rb).val a c, .string b] wx fun e w' => e = .returned (.tuple #[.agg #[.int .i64 (findOf ⟨p0, fl, ss, pt, ha⟩ b).1, .int .i64 (findOf ⟨p0, fl, ss, pt, ha⟩ b).2.1], .bool ud]) ∧ Below wx.heap.size wx w') := fun wx hb => Lib.hid (by rw [← hf]; exact rfind_any ⟨p0, fl, ss, pt, ha⟩ a c b wx (hr.strs.below hb) hr.cap hr.len)
  generalize (findOf ⟨p0, fl, ss, pt, ha⟩ b).1 = y1 at *
  generalize (findOf ⟨p0, fl, ss, pt, ha⟩ b).2.1 = y2 at *
  dsimp only at hh
  subst hh
  subst hbe
  clear hf hr HT
  unfold Md.val Rb.val E0 at *
  go_enter Try.func11, Try.ntmps11
  go_wp2_with fail
  refine V.out.mono ?_
  rintro e w1 ⟨rfl, hb1⟩
  have X1 := HX0.out.next hb1
  have HX1 := Lib.hid X1
  have HB1 := Lib.hid X1.low
  obtain ⟨b0, b1, b2, b3, b4⟩ := X1.r.at5
  obtain ⟨m0, m1, m2, m3, m4, m5, m6, m7⟩ := X1.m
  have j0 := X1.e.g0
  have j1 := X1.e.g1
  dsimp only at b0 b1 b2 b3 b4
  clear HX0 V hb1 X1
  go_wp2_with fail
  refine (HF _ HB1.out).out.mono ?_
  rintro e w4 ⟨rfl, hb4⟩
  have X4 := HX1.out.next hb4
  have l3 : w.heap.size + 1 + 1 + 1 < w4.heap.size := X4.z.lt
  have HE := Lib.hid ((X4.z.five (.int .i64 0) (.bool false) (.slice none 0 0) (.string E0) (.string E0)).alloc (.cells #[.int .i64 y1, .int .i64 y2] 28)).at5
  have HL5 := Lib.hid (below_five X4.low (by omega : w.heap.size ≤ w.heap.size + 3) (.int .i64 0) (.bool false) (.slice none 0 0) (.string E0) (.string E0))
  obtain ⟨c0, c1', c2, c3, c4⟩ := X4.z.at5
  have hz := fun j => X4.z.free j
  unfold E0 at c3 c4
  clear X4 HX1 hb4 HF
  go_wp2
  obtain ⟨g0, g1, g2, g3, g4⟩ := HE.out
  unfold E0 at g0 g1 g2 g3 g4
  rw [show w.heap.size + 3 = w.heap.size + 1 + 1 + 1 from rfl] at g0 g1 g2 g3 g4
  refine bodyPost_ret (v := .tuple #[.agg #[.int .i64 0, .bool false, .slice none 0 0, .string E0, .string E0], .int .i64 0, .int .i64 8]) (by simp [results, Try.results11, go_sem, E0, g0, g1, g2, g3, g4]) rfl ?_
  exact givesR0 (below_alloc' HL5.out _)
set_option maxRecDepth 100000 in
set_option maxHeartbeats 600000 in
theorem rpick_drive (m : Md) (r : Rb) (a : Option Addr) (c : Nat) (i : Int) (b : ByteArray) (w : World) (hr : RobIn w r a c)
    (hi0 : -9223372036854775808 ≤ i) (hi1 : i ≤ 9223372036854775807) (p : Int) (hre : (reachOf m r 1 i).2.2 = 0) (hrp : rreachOf m r 1 i = p) (hp0 : -9223372036854775808 ≤ p ∧ p ≤ 9223372036854775807) (hm : 0 ≤ m.pick ∧ m.pick ≤ 1000000) (hh : r.hand = E0) (hbe : b ≠ E0) (hf : (findOf r b).2.2 = false) (o : Rb × Int × Int) (ho : o = ({ withOf r 1 i E0 with pos := p, hand := b }, travOf m r.pos p + m.pick, 0)) :
    Calls Try.prog 11 #[m.val, r.val a c, .agg #[.int .i64 1, .int .i64 i], .string b] w (GivesR w o) := by
  have ht := travOf_in m r.pos p
  have HT := fun wx => Lib.hid (rtravel_any m r.pos p wx hr.lo hr.hi hp0.1 hp0.2)
  generalize travOf m r.pos p = t at *
  obtain ⟨f0, f1, f2, f3, f4, f5, f6⟩ := m
  obtain ⟨p0, fl, ss, pt, ha⟩ := r
  have X0 := B4.start w f0 f1 f2 f3 f4 f5 f6 ⟨p0, fl, ss, pt, ha⟩ a c 1 i
  have V := Lib.hid (rreach_any ⟨f0, f1, f2, f3, f4, f5, f6⟩ ⟨p0, fl, ss, pt, ha⟩ a c 1 i _ (hr.below X0.low) hi0 hi1)
  have HX0 := Lib.hid X0
  rw [hre, hrp] at V
  clear X0 hre hrp
  have t0 := ht.1
  have t1 := ht.2
  have u0 := hm.1
  have u1 := hm.2
  dsimp only at u0 u1
  clear ht hm
  have HF : ∀ wx, Below w.heap.size w wx → Hid (Calls Try.prog 23 #[(⟨p0, fl, ss, pt, ha⟩ : Rb).val a c, .string b] wx fun e w' => e = .returned (.tuple #[.agg #[.int .i64 (findOf ⟨p0, fl, ss, pt, ha⟩ b).1, .int .i64 (findOf ⟨p0, fl, ss, pt, ha⟩ b).2.1], .bool false]) ∧ Below wx.heap.size wx w') := fun wx hb => Lib.hid (by rw [← hf]; exact rfind_any ⟨p0, fl, ss, pt, ha⟩ a c b wx (hr.strs.below hb) hr.cap hr.len)
  generalize (findOf ⟨p0, fl, ss, pt, ha⟩ b).1 = y1 at *
  generalize (findOf ⟨p0, fl, ss, pt, ha⟩ b).2.1 = y2 at *
  have HC : ∀ wx, Below w.heap.size w wx → Hid (Calls Try.prog 34 #[(⟨p0, fl, ss, pt, ha⟩ : Rb).val a c, .agg #[.int .i64 1, .int .i64 i], .string E0] wx fun e w' => ∃ a' c', e = .returned ((withOf ⟨p0, fl, ss, pt, ha⟩ 1 i E0).val a' c') ∧ w'.ownsRow wx.heap.size 9 1 (.slice a' (withOf ⟨p0, fl, ss, pt, ha⟩ 1 i E0).slots.length c') (withOf ⟨p0, fl, ss, pt, ha⟩ 1 i E0).slots.length ((withOf ⟨p0, fl, ss, pt, ha⟩ 1 i E0).slots.map Value.string) ∧ Below wx.heap.size wx w') := fun wx hb => Lib.hid (rwith_any ⟨p0, fl, ss, pt, ha⟩ a c 1 i E0 wx (hr.strs.below hb) hr.cap hr.nil hr.len (fun h => by cases h))
  obtain ⟨rr, hrr⟩ : ∃ rr, withOf ⟨p0, fl, ss, pt, ha⟩ 1 i E0 = rr := ⟨_, rfl⟩
  rw [hrr] at HC ho
  have HRR := Lib.hid ho
  clear hrr ho
  have q5 := ne_isEmpty hbe
  dsimp only at hh
  subst hh
  clear hf hr hbe hp0 hi0 hi1
  unfold Md.val Rb.val E0 at *
  go_enter Try.func11, Try.ntmps11
  go_wp2_with fail
  refine V.out.mono ?_
  rintro e w1 ⟨rfl, hb1⟩
  have X1 := HX0.out.next hb1
  have HX1 := Lib.hid X1
  have HB1 := Lib.hid X1.low
  obtain ⟨b0, b1, b2, b3, b4⟩ := X1.r.at5
  obtain ⟨m0, m1, m2, m3, m4, m5, m6, m7⟩ := X1.m
  have j0 := X1.e.g0
  have j1 := X1.e.g1
  dsimp only at b0 b1 b2 b3 b4
  clear HX0 V hb1 X1
  go_wp2_with fail
  refine (HF _ HB1.out).out.mono ?_
  rintro e w4 ⟨rfl, hb4⟩
  have X4 := HX1.out.next hb4
  have l3 : w.heap.size + 1 + 1 + 1 < w4.heap.size := X4.z.lt
  have W5 := below_alloc (Below.refl w4.heap.size w4) (.cells #[.int .i64 y1, .int .i64 y2] 28)
  have X5 := X4.next W5
  obtain ⟨w5, hw5⟩ : ∃ w5, w5 = w4.alloc (.cells #[.int .i64 y1, .int .i64 y2] 28) := ⟨_, rfl⟩
  clear W5 HX1 X4 hb4 HF HB1
  go_wp2
  rw [← hw5] at X5 ⊢
  clear hw5
  have K : ∀ wx, Below w5.heap.size w5 wx → Below w5.heap.size w5 wx ∧ (wx.cell? ⟨w.heap.size, 0, none⟩ = some (.int .i64 f0) ∧ wx.cell? ⟨w.heap.size, 1, none⟩ = some (.int .i64 f1) ∧ wx.cell? ⟨w.heap.size, 2, none⟩ = some (.int .i64 f2) ∧ wx.cell? ⟨w.heap.size, 3, none⟩ = some (.int .i64 f3) ∧ wx.cell? ⟨w.heap.size, 4, none⟩ = some (.int .i64 f4) ∧ wx.cell? ⟨w.heap.size, 5, none⟩ = some (.int .i64 f5) ∧ wx.cell? ⟨w.heap.size, 6, none⟩ = some (.int .i64 f6)) ∧ wx.cell? ⟨w.heap.size + 1, 0, none⟩ = some (.int .i64 p0) := fun wx hb => by
    have X := X5.next hb
    have M := X.m
    exact ⟨hb, ⟨M.g0, M.g1, M.g2, M.g3, M.g4, M.g5, M.g6⟩, X.r.at5.1⟩
  have I1 : Hid (∀ wx, Below w5.heap.size w5 wx → Calls Try.prog 28 #[.agg #[.int .i64 f0, .int .i64 f1, .int .i64 f2, .int .i64 f3, .int .i64 f4, .int .i64 f5, .int .i64 f6], .int .i64 p0, .int .i64 p] wx fun e w' => e = .returned (.int .i64 t) ∧ Below w5.heap.size w5 w') := Lib.hid fun wx hb => (HT wx).out.mono fun e w' h => ⟨h.1, Below.next hb h.2⟩
  have S0 := K w5.drew (Below.refl _ _).drew
  have KK := Lib.hid K
  have HX5 := Lib.hid X5
  clear K HT X5
  go_region_held3 (fun wx => Below w5.heap.size w5 wx ∧ (wx.cell? ⟨w.heap.size, 0, none⟩ = some (.int .i64 f0) ∧ wx.cell? ⟨w.heap.size, 1, none⟩ = some (.int .i64 f1) ∧ wx.cell? ⟨w.heap.size, 2, none⟩ = some (.int .i64 f2) ∧ wx.cell? ⟨w.heap.size, 3, none⟩ = some (.int .i64 f3) ∧ wx.cell? ⟨w.heap.size, 4, none⟩ = some (.int .i64 f4) ∧ wx.cell? ⟨w.heap.size, 5, none⟩ = some (.int .i64 f5) ∧ wx.cell? ⟨w.heap.size, 6, none⟩ = some (.int .i64 f6)) ∧ wx.cell? ⟨w.heap.size + 1, 0, none⟩ = some (.int .i64 p0)) (with_reducible first | assumption | exact S0 | exact KK.out _ (by assumption)) (first | (go_at_call 28; (with_reducible refine (I1.out _ ?_).mono ?_); (go_split_ands; with_reducible assumption); rintro e w6 ⟨rfl, hb6⟩))
  rw [show IntKind.i64.wrap (t + f5) = t + f5 from IntWalk.i64_in _ (by omega)]
  clear b0 b1 b2 b3 b4 m0 m1 m2 m3 m4 m5 m6 m7 j0 j1
  have X6 := HX5.out.next hb6
  have HX6 := Lib.hid X6
  have HC6 := HC _ X6.low
  obtain ⟨b0, b1, b2, b3, b4⟩ := X6.r.at5
  obtain ⟨m0, m1, m2, m3, m4, m5, m6, m7⟩ := X6.m
  have j0 := X6.e.g0
  have j1 := X6.e.g1
  try unfold E0 at HC6
  dsimp only at b0 b1 b2 b3 b4
  try unfold E0 at b4
  clear HC KK I1 S0 HX5 hb6 X6
  go_wp2_with fail
  refine HC6.out.mono ?_
  rintro e w7 ⟨a7, c7, rfl, hown7, hb7⟩
  have X7 := HX6.out.next hb7
  have hs7 := HX6.out.z.lt
  have ho7 := ownsRow_mono hown7 (by omega : w.heap.size + 4 ≤ w6.heap.size)
  obtain ⟨q0, q1, qs, q3, q4⟩ := rr
  dsimp only at ho7
  clear b0 b1 b2 b3 b4 m0 m1 m2 m3 m4 m5 m6 m7 j0 j1
  obtain ⟨b0, b1, b2, b3, b4⟩ := X7.r.at5
  have bf := fun j => X7.r.free j
  obtain ⟨z0, z1, z2, z3, z4⟩ := X7.z.at5
  have zf := fun j => X7.z.free j
  unfold E0 at z3 z4
  have R8 := ((X7.r.five (.int .i64 q0) (.bool q1) (.slice a7 qs.length c7) (.string q3) (.string q4)).set 0 (.int .i64 p)).set 4 (.string b)
  simp only [List.setIfInBounds_toArray, List.set_cons_zero, List.set_cons_succ] at R8
  have Z8 := (((X7.z.other5 (by omega : w.heap.size + 3 ≠ w.heap.size + 1) (.int .i64 q0) (.bool q1) (.slice a7 qs.length c7) (.string q3) (.string q4)).other 0 (by omega : w.heap.size + 3 ≠ w.heap.size + 1) (.int .i64 p)).other 4 (by omega : w.heap.size + 3 ≠ w.heap.size + 1) (.string b))
  have HZ8 := Lib.hid Z8
  have HF8 := Lib.hid (Z8.five (.int .i64 p) (.bool q1) (.slice a7 qs.length c7) (.string q3) (.string b)).at5
  have HL8 := Lib.hid (below_five (below_set (below_set (below_five X7.low (by omega : w.heap.size ≤ w.heap.size + 1) (.int .i64 q0) (.bool q1) (.slice a7 qs.length c7) (.string q3) (.string q4)) (by omega : w.heap.size ≤ w.heap.size + 1) 0 (.int .i64 p)) (by omega : w.heap.size ≤ w.heap.size + 1) 4 (.string b)) (by omega : w.heap.size ≤ w.heap.size + 3) (.int .i64 p) (.bool q1) (.slice a7 qs.length c7) (.string q3) (.string b))
  have HO8 := Lib.hid (ownsRow_mono (ownsRow_five (B := w.heap.size + 3) (ownsRow_setCell (B := w.heap.size + 1) (j := 4) (u := .string b) (ownsRow_setCell (B := w.heap.size + 1) (j := 0) (u := .int .i64 p) (ownsRow_five (B := w.heap.size + 1) ho7 (by omega) (.int .i64 q0) (.bool q1) (.slice a7 qs.length c7) (.string q3) (.string q4)) (by omega)) (by omega)) (by omega) (.int .i64 p) (.bool q1) (.slice a7 qs.length c7) (.string q3) (.string b)) (by omega : w.heap.size ≤ w.heap.size + 4))
  have HR8 := Lib.hid R8
  clear X7 HX6 R8 Z8 ho7 hown7 hb7 HC6
  have n1 : w.heap.size + 1 ≠ w.heap.size + 1 + 1 + 1 := by omega
  have n2 : w.heap.size + 1 + 1 + 1 ≠ w.heap.size + 1 := by omega
  have n3 : w.heap.size + 1 ≠ w.heap.size + 3 := by omega
  have n4 : w.heap.size + 3 ≠ w.heap.size + 1 := by omega
  try unfold Rb.val
  dsimp only
  dsimp only at b0 b1 b2 b3 b4
  iterate 37 (first | go_skip | go_guarded | go_step | go_upon)
  obtain ⟨w8, hw8⟩ : ∃ w8, w8 = (((((((w7.setCell ⟨w.heap.size + 1, 0, none⟩ (.int .i64 q0)).setCell ⟨w.heap.size + 1, 1, none⟩ (.bool q1)).setCell ⟨w.heap.size + 1, 2, none⟩ (.slice a7 qs.length c7)).setCell ⟨w.heap.size + 1, 3, none⟩ (.string q3)).setCell ⟨w.heap.size + 1, 4, none⟩ (.string q4)).setCell ⟨w.heap.size + 1, 0, none⟩ (.int .i64 p)).setCell ⟨w.heap.size + 1, 4, none⟩ (.string b)) := ⟨_, rfl⟩
  have ZZ := HZ8.out
  rw [← hw8] at HR8 ZZ HF8 HL8 HO8 ⊢
  clear hw8 b0 b1 b2 b3 b4 bf z0 z1 z2 z3 z4 zf HZ8
  obtain ⟨b0, b1, b2, b3, b4⟩ := HR8.out.at5
  obtain ⟨z0, z1, z2, z3, z4⟩ := ZZ.at5
  have zf := fun j => ZZ.free j
  clear HR8 ZZ
  unfold E0 at z3 z4
  go_wp2
  obtain ⟨g0, g1, g2, g3, g4⟩ := HF8.out
  rw [show w.heap.size + 3 = w.heap.size + 1 + 1 + 1 from rfl] at g0 g1 g2 g3 g4
  refine bodyPost_ret (v := .tuple #[.agg #[.int .i64 p, .bool q1, .slice a7 qs.length c7, .string q3, .string b], .int .i64 (t + f5), .int .i64 0]) (by simp [results, Try.results11, go_sem, g0, g1, g2, g3, g4]) rfl ?_
  rw [HRR.out]
  exact ⟨a7, c7, rfl, HO8.out, HL8.out⟩
end Go.Proofs.Ytpnkaoigpefmiaa
