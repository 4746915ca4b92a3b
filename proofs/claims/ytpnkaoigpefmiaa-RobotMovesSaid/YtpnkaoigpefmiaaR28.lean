/- Pick, the other ways. -/
import Derived.Test.YtpnkaoigpefmiaaR27
namespace Go.Proofs.Ytpnkaoigpefmiaa
open Go.RowKit
set_option linter.unusedVariables false
set_option linter.unusedSimpArgs false

set_option maxRecDepth 100000 in
set_option maxHeartbeats 400000 in
theorem pick_drive_twice (m : Md) (r : Rb) (a : Option Addr) (c : Nat) (i : Int) (b : ByteArray) (w : World) (hr : RobIn w r a c)
    (hi0 : -9223372036854775808 ≤ i) (hi1 : i ≤ 9223372036854775807) (p t : Int) (hre : reachOf m r 1 i = ({ r with pos := p }, t, 0)) (ht : 0 ≤ t ∧ t ≤ 2000000000) (hm : 0 ≤ m.pick ∧ m.pick ≤ 1000000) (hh : r.hand = E0) (hf : (findOf r b).2.2 = true) :
    Calls Try.prog 10 #[m.val, r.val a c, .agg #[.int .i64 1, .int .i64 i], .string b] w (GivesR w (R0, 0, 8)) := by
  obtain ⟨f0, f1, f2, f3, f4, f5, f6⟩ := m
  obtain ⟨p0, fl, ss, pt, ha⟩ := r
  have X0 := B4.start w f0 f1 f2 f3 f4 f5 f6 ⟨p0, fl, ss, pt, ha⟩ a c 1 i
  have V := Lib.hid (reach_any ⟨f0, f1, f2, f3, f4, f5, f6⟩ ⟨p0, fl, ss, pt, ha⟩ a c 1 i _ (hr.below X0.low) hi0 hi1)
  have HX0 := Lib.hid X0
  rw [hre] at V
  clear X0 hre
  have t0 := ht.1
  have t1 := ht.2
  have u0 := hm.1
  have u1 := hm.2
  dsimp only at u0 u1
  clear ht hm
  have HF : ∀ wx, Below w.heap.size w wx → Hid (Calls Try.prog 22 #[(⟨p0, fl, ss, pt, ha⟩ : Rb).val a c, .string b] wx fun e w' => e = .returned (.tuple #[.agg #[.int .i64 (findOf ⟨p0, fl, ss, pt, ha⟩ b).1, .int .i64 (findOf ⟨p0, fl, ss, pt, ha⟩ b).2.1], .bool true]) ∧ Below wx.heap.size wx w') := fun wx hb => Lib.hid (by rw [← hf]; exact find_any ⟨p0, fl, ss, pt, ha⟩ a c b wx (hr.strs.below hb) hr.cap hr.len)
  generalize (findOf ⟨p0, fl, ss, pt, ha⟩ b).1 = y1 at *
  generalize (findOf ⟨p0, fl, ss, pt, ha⟩ b).2.1 = y2 at *
  dsimp only at hh
  subst hh
  clear hf hr
  unfold Md.val Rb.val E0 at *
  go_enter Try.func10, Try.ntmps10
  go_wp2_with fail
  refine V.out.mono ?_
  rintro e w1 ⟨a1, c1, rfl, hown, hb1⟩
  have X1 := HX0.out.next hb1
  have hlt := X1.z.lt
  have HX1 := Lib.hid X1
  have k1 : w.heap.size + 1 < w1.heap.size := by omega
  have k2 : w.heap.size + 1 + 1 < w1.heap.size := by omega
  have k3 : w.heap.size + 1 + 1 + 1 < w1.heap.size := by omega
  have k4 : w.heap.size + 2 < w1.heap.size := by omega
  obtain ⟨b0, b1, b2, b3, b4⟩ := X1.r.at5
  obtain ⟨m0, m1, m2, m3, m4, m5, m6, m7⟩ := X1.m
  have j0 := X1.e.g0
  have j1 := X1.e.g1
  simp only [World.size_alloc] at hown
  dsimp only [Rb.val] at b0 b1 b2 b3 b4 hown ⊢
  try unfold E0 at b4
  have HB2 := Lib.hid (below_alloc' (below_alloc' X1.low (.cells #[.int .i64 p, .bool fl, .slice a1 ss.length c1, .string pt, .string E0] 26)) (.cells #[.int .i64 1, .int .i64 i] 28))
  clear HX0 V hown hb1 X1
  go_wp2_with fail
  refine (cell_none w1.heap.size 1 i _ rfl rfl).mono ?_
  rintro e w2 ⟨rfl, rfl⟩
  go_wp2_with fail
  unfold E0 at HB2
  refine (HF _ HB2.out).out.mono ?_
  rintro e w4 ⟨rfl, hb4⟩
  have X4 := (HX1.out.next (below_alloc (below_alloc (Below.refl _ _) _) _)).next hb4
  have hs4 := hb4.size
  simp only [World.size_alloc] at hs4
  have l3 : w.heap.size + 1 + 1 + 1 < w4.heap.size := by omega
  have HE := Lib.hid ((X4.z.five (.int .i64 0) (.bool false) (.slice none 0 0) (.string E0) (.string E0)).alloc (.cells #[.int .i64 y1, .int .i64 y2] 28)).at5
  have HL5 := Lib.hid (below_five X4.low (by omega : w.heap.size ≤ w.heap.size + 3) (.int .i64 0) (.bool false) (.slice none 0 0) (.string E0) (.string E0))
  obtain ⟨c0, c1', c2, c3, c4⟩ := X4.z.at5
  have hz := fun j => X4.z.free j
  unfold E0 at c3 c4
  clear X4 HX1 HB2 hb4 HF
  go_wp2
  obtain ⟨g0, g1, g2, g3, g4⟩ := HE.out
  unfold E0 at g0 g1 g2 g3 g4
  rw [show w.heap.size + 3 = w.heap.size + 1 + 1 + 1 from rfl] at g0 g1 g2 g3 g4
  refine bodyPost_ret (v := .tuple #[.agg #[.int .i64 0, .bool false, .slice none 0 0, .string E0, .string E0], .int .i64 0, .int .i64 8]) (by simp [results, Try.results10, go_sem, E0, g0, g1, g2, g3, g4]) rfl ?_
  exact givesR0 (below_alloc' HL5.out _)
set_option maxRecDepth 100000 in
set_option maxHeartbeats 400000 in
theorem pick_drive_none (m : Md) (r : Rb) (a : Option Addr) (c : Nat) (i : Int) (b : ByteArray) (w : World) (hr : RobIn w r a c)
    (hi0 : -9223372036854775808 ≤ i) (hi1 : i ≤ 9223372036854775807) (p t : Int) (hre : reachOf m r 1 i = ({ r with pos := p }, t, 0)) (ht : 0 ≤ t ∧ t ≤ 2000000000) (hm : 0 ≤ m.pick ∧ m.pick ≤ 1000000) (hh : r.hand = E0) (hf : (findOf r b).2.2 = false) (hbe : b = E0) :
    Calls Try.prog 10 #[m.val, r.val a c, .agg #[.int .i64 1, .int .i64 i], .string b] w (GivesR w (R0, 0, 8)) := by
  obtain ⟨f0, f1, f2, f3, f4, f5, f6⟩ := m
  obtain ⟨p0, fl, ss, pt, ha⟩ := r
  have X0 := B4.start w f0 f1 f2 f3 f4 f5 f6 ⟨p0, fl, ss, pt, ha⟩ a c 1 i
  have V := Lib.hid (reach_any ⟨f0, f1, f2, f3, f4, f5, f6⟩ ⟨p0, fl, ss, pt, ha⟩ a c 1 i _ (hr.below X0.low) hi0 hi1)
  have HX0 := Lib.hid X0
  rw [hre] at V
  clear X0 hre
  have t0 := ht.1
  have t1 := ht.2
  have u0 := hm.1
  have u1 := hm.2
  dsimp only at u0 u1
  clear ht hm
  have HF : ∀ wx, Below w.heap.size w wx → Hid (Calls Try.prog 22 #[(⟨p0, fl, ss, pt, ha⟩ : Rb).val a c, .string b] wx fun e w' => e = .returned (.tuple #[.agg #[.int .i64 (findOf ⟨p0, fl, ss, pt, ha⟩ b).1, .int .i64 (findOf ⟨p0, fl, ss, pt, ha⟩ b).2.1], .bool false]) ∧ Below wx.heap.size wx w') := fun wx hb => Lib.hid (by rw [← hf]; exact find_any ⟨p0, fl, ss, pt, ha⟩ a c b wx (hr.strs.below hb) hr.cap hr.len)
  generalize (findOf ⟨p0, fl, ss, pt, ha⟩ b).1 = y1 at *
  generalize (findOf ⟨p0, fl, ss, pt, ha⟩ b).2.1 = y2 at *
  dsimp only at hh
  subst hh
  subst hbe
  clear hf hr
  unfold Md.val Rb.val E0 at *
  go_enter Try.func10, Try.ntmps10
  go_wp2_with fail
  refine V.out.mono ?_
  rintro e w1 ⟨a1, c1, rfl, hown, hb1⟩
  have X1 := HX0.out.next hb1
  have hlt := X1.z.lt
  have HX1 := Lib.hid X1
  have k1 : w.heap.size + 1 < w1.heap.size := by omega
  have k2 : w.heap.size + 1 + 1 < w1.heap.size := by omega
  have k3 : w.heap.size + 1 + 1 + 1 < w1.heap.size := by omega
  have k4 : w.heap.size + 2 < w1.heap.size := by omega
  obtain ⟨b0, b1, b2, b3, b4⟩ := X1.r.at5
  obtain ⟨m0, m1, m2, m3, m4, m5, m6, m7⟩ := X1.m
  have j0 := X1.e.g0
  have j1 := X1.e.g1
  simp only [World.size_alloc] at hown
  dsimp only [Rb.val] at b0 b1 b2 b3 b4 hown ⊢
  try unfold E0 at b4
  have HB2 := Lib.hid (below_alloc' (below_alloc' X1.low (.cells #[.int .i64 p, .bool fl, .slice a1 ss.length c1, .string pt, .string E0] 26)) (.cells #[.int .i64 1, .int .i64 i] 28))
  clear HX0 V hown hb1 X1
  go_wp2_with fail
  refine (cell_none w1.heap.size 1 i _ rfl rfl).mono ?_
  rintro e w2 ⟨rfl, rfl⟩
  go_wp2_with fail
  unfold E0 at HB2
  refine (HF _ HB2.out).out.mono ?_
  rintro e w4 ⟨rfl, hb4⟩
  have X4 := (HX1.out.next (below_alloc (below_alloc (Below.refl _ _) _) _)).next hb4
  have hs4 := hb4.size
  simp only [World.size_alloc] at hs4
  have l3 : w.heap.size + 1 + 1 + 1 < w4.heap.size := by omega
  have HE := Lib.hid ((X4.z.five (.int .i64 0) (.bool false) (.slice none 0 0) (.string E0) (.string E0)).alloc (.cells #[.int .i64 y1, .int .i64 y2] 28)).at5
  have HL5 := Lib.hid (below_five X4.low (by omega : w.heap.size ≤ w.heap.size + 3) (.int .i64 0) (.bool false) (.slice none 0 0) (.string E0) (.string E0))
  obtain ⟨c0, c1', c2, c3, c4⟩ := X4.z.at5
  have hz := fun j => X4.z.free j
  unfold E0 at c3 c4
  clear X4 HX1 HB2 hb4 HF
  go_wp2
  obtain ⟨g0, g1, g2, g3, g4⟩ := HE.out
  unfold E0 at g0 g1 g2 g3 g4
  rw [show w.heap.size + 3 = w.heap.size + 1 + 1 + 1 from rfl] at g0 g1 g2 g3 g4
  refine bodyPost_ret (v := .tuple #[.agg #[.int .i64 0, .bool false, .slice none 0 0, .string E0, .string E0], .int .i64 0, .int .i64 8]) (by simp [results, Try.results10, go_sem, E0, g0, g1, g2, g3, g4]) rfl ?_
  exact givesR0 (below_alloc' HL5.out _)
set_option maxRecDepth 100000 in
set_option maxHeartbeats 400000 in
theorem pick_port_none (m : Md) (r : Rb) (a : Option Addr) (c : Nat) (i : Int) (b : ByteArray) (w : World) (hr : RobIn w r a c)
    (hi0 : -9223372036854775808 ≤ i) (hi1 : i ≤ 9223372036854775807) (p t : Int) (hre : reachOf m r 2 i = ({ r with pos := p }, t, 0)) (ht : 0 ≤ t ∧ t ≤ 2000000000) (hm : 0 ≤ m.pick ∧ m.pick ≤ 1000000) (hh : r.hand = E0) (hbe : r.port = E0) :
    Calls Try.prog 10 #[m.val, r.val a c, .agg #[.int .i64 2, .int .i64 i], .string b] w (GivesR w (R0, 0, 11)) := by
  obtain ⟨f0, f1, f2, f3, f4, f5, f6⟩ := m
  obtain ⟨p0, fl, ss, pt, ha⟩ := r
  have X0 := B4.start w f0 f1 f2 f3 f4 f5 f6 ⟨p0, fl, ss, pt, ha⟩ a c 2 i
  have V := Lib.hid (reach_any ⟨f0, f1, f2, f3, f4, f5, f6⟩ ⟨p0, fl, ss, pt, ha⟩ a c 2 i _ (hr.below X0.low) hi0 hi1)
  have HX0 := Lib.hid X0
  rw [hre] at V
  clear X0 hre
  have t0 := ht.1
  have t1 := ht.2
  have u0 := hm.1
  have u1 := hm.2
  dsimp only at u0 u1
  clear ht hm
  dsimp only at hh hbe
  subst hh
  subst hbe
  clear hr
  unfold Md.val Rb.val E0 at *
  go_enter Try.func10, Try.ntmps10
  go_wp2_with fail
  refine V.out.mono ?_
  rintro e w1 ⟨a1, c1, rfl, hown, hb1⟩
  have X1 := HX0.out.next hb1
  have hlt := X1.z.lt
  have HX1 := Lib.hid X1
  have k1 : w.heap.size + 1 < w1.heap.size := by omega
  have k2 : w.heap.size + 1 + 1 < w1.heap.size := by omega
  have k3 : w.heap.size + 1 + 1 + 1 < w1.heap.size := by omega
  have k4 : w.heap.size + 2 < w1.heap.size := by omega
  obtain ⟨b0, b1, b2, b3, b4⟩ := X1.r.at5
  obtain ⟨m0, m1, m2, m3, m4, m5, m6, m7⟩ := X1.m
  have j0 := X1.e.g0
  have j1 := X1.e.g1
  simp only [World.size_alloc] at hown
  dsimp only [Rb.val] at b0 b1 b2 b3 b4 hown ⊢
  try unfold E0 at b4
  clear HX0 V hown hb1
  go_wp2_with fail
  refine (cell_port w1.heap.size i _).mono ?_
  rintro e w2 ⟨rfl, rfl⟩
  have HE := Lib.hid (((X1.z.five (.int .i64 0) (.bool false) (.slice none 0 0) (.string E0) (.string E0)).alloc (.cells #[.int .i64 p, .bool fl, .slice a1 ss.length c1, .string E0, .string E0] 26)).alloc (.cells #[.int .i64 2, .int .i64 i] 28)).at5
  have HL5 := Lib.hid (below_five X1.low (by omega : w.heap.size ≤ w.heap.size + 3) (.int .i64 0) (.bool false) (.slice none 0 0) (.string E0) (.string E0))
  obtain ⟨c0, c1', c2, c3, c4⟩ := X1.z.at5
  have hz := fun j => X1.z.free j
  unfold E0 at c3 c4
  clear X1 HX1
  go_wp2
  obtain ⟨g0, g1, g2, g3, g4⟩ := HE.out
  unfold E0 at g0 g1 g2 g3 g4
  rw [show w.heap.size + 3 = w.heap.size + 1 + 1 + 1 from rfl] at g0 g1 g2 g3 g4
  refine bodyPost_ret (v := .tuple #[.agg #[.int .i64 0, .bool false, .slice none 0 0, .string E0, .string E0], .int .i64 0, .int .i64 11]) (by simp [results, Try.results10, go_sem, E0, g0, g1, g2, g3, g4]) rfl ?_
  exact givesR0 (below_alloc' (below_alloc' HL5.out _) _)
set_option maxRecDepth 100000 in
set_option maxHeartbeats 400000 in
theorem pick_port (m : Md) (r : Rb) (a : Option Addr) (c : Nat) (i : Int) (b : ByteArray) (w : World) (hr : RobIn w r a c)
    (hi0 : -9223372036854775808 ≤ i) (hi1 : i ≤ 9223372036854775807) (p t : Int) (hre : reachOf m r 2 i = ({ r with pos := p }, t, 0)) (ht : 0 ≤ t ∧ t ≤ 2000000000) (hm : 0 ≤ m.pick ∧ m.pick ≤ 1000000) (hh : r.hand = E0) (hbe : r.port ≠ E0) :
    Calls Try.prog 10 #[m.val, r.val a c, .agg #[.int .i64 2, .int .i64 i], .string b] w (GivesR w ({ r with pos := p, port := E0, hand := r.port }, t + m.pick, 0)) := by
  obtain ⟨f0, f1, f2, f3, f4, f5, f6⟩ := m
  obtain ⟨p0, fl, ss, pt, ha⟩ := r
  have X0 := B4.start w f0 f1 f2 f3 f4 f5 f6 ⟨p0, fl, ss, pt, ha⟩ a c 2 i
  have V := Lib.hid (reach_any ⟨f0, f1, f2, f3, f4, f5, f6⟩ ⟨p0, fl, ss, pt, ha⟩ a c 2 i _ (hr.below X0.low) hi0 hi1)
  have HX0 := Lib.hid X0
  rw [hre] at V
  clear X0 hre
  have t0 := ht.1
  have t1 := ht.2
  have u0 := hm.1
  have u1 := hm.2
  dsimp only at u0 u1
  clear ht hm
  have q5 := ne_isEmpty hbe
  dsimp only at hh q5
  subst hh
  clear hr hbe
  unfold Md.val Rb.val E0 at *
  go_enter Try.func10, Try.ntmps10
  go_wp2_with fail
  refine V.out.mono ?_
  rintro e w1 ⟨a1, c1, rfl, hown, hb1⟩
  have X1 := HX0.out.next hb1
  have hlt := X1.z.lt
  have HX1 := Lib.hid X1
  have k1 : w.heap.size + 1 < w1.heap.size := by omega
  have k2 : w.heap.size + 1 + 1 < w1.heap.size := by omega
  have k3 : w.heap.size + 1 + 1 + 1 < w1.heap.size := by omega
  have k4 : w.heap.size + 2 < w1.heap.size := by omega
  obtain ⟨b0, b1, b2, b3, b4⟩ := X1.r.at5
  obtain ⟨m0, m1, m2, m3, m4, m5, m6, m7⟩ := X1.m
  have j0 := X1.e.g0
  have j1 := X1.e.g1
  simp only [World.size_alloc] at hown
  dsimp only [Rb.val] at b0 b1 b2 b3 b4 hown ⊢
  try unfold E0 at b4
  clear HX0 V hb1
  go_wp2_with fail
  refine (cell_port w1.heap.size i _).mono ?_
  rintro e w2 ⟨rfl, rfl⟩
  have HOW := Lib.hid hown
  have HW : Below w1.heap.size w1 ((w1.alloc (.cells #[.int .i64 p, .bool fl, .slice a1 ss.length c1, .string E0, .string pt] 26)).alloc (.cells #[.int .i64 2, .int .i64 i] 28)) := below_alloc' (below_alloc (Below.refl w1.heap.size w1) _) _
  have X5 := X1.kept HW hlt
  have N5 := (Blk.new w1 26 #[.int .i64 p, .bool fl, .slice a1 ss.length c1, .string E0, .string pt]).alloc (.cells #[.int .i64 2, .int .i64 i] 28)
  unfold E0 at HW X5 N5
  clear X1 HX1 hown
  go_wp2
  obtain ⟨W5, hW5⟩ : ∃ W5, W5 = (w1.alloc (.cells #[.int .i64 p, .bool fl, .slice a1 ss.length c1, .string { data := #[] }, .string pt] 26)).alloc (.cells #[.int .i64 2, .int .i64 i] 28) := ⟨_, rfl⟩
  rw [← hW5] at HW X5 N5 ⊢
  clear hW5
  have l5 : w1.heap.size ≠ w.heap.size + 1 + 1 + 1 := by omega
  have l6 : w.heap.size + 1 + 1 + 1 ≠ w1.heap.size := by omega
  have l7 : w1.heap.size ≠ w.heap.size + 3 := by omega
  have l8 : w.heap.size + 3 ≠ w1.heap.size := by omega
  have l9 : w.heap.size ≠ w1.heap.size := by omega
  have la : w.heap.size + 1 + 1 + 1 ≠ w.heap.size := by omega
  have lb : w.heap.size ≠ w.heap.size + 1 + 1 + 1 := by omega
  obtain ⟨b0, b1, b2, b3, b4⟩ := N5.at5
  obtain ⟨c0, c1', c2, c3, c4⟩ := X5.z.at5
  have hz := fun j => X5.z.free j
  try unfold E0 at b3
  try unfold E0 at b4
  unfold E0 at c3 c4
  have m5 := X5.m.g5
  have HX5 := Lib.hid X5
  have HN5 := Lib.hid N5
  have HW1 := Lib.hid HW
  clear X5 N5 HW
  go_region_held3 (fun wx => wx.cell? ⟨w1.heap.size, 0, none⟩ = some (.int .i64 p) ∧ wx.cell? ⟨w1.heap.size, 1, none⟩ = some (.bool fl) ∧ wx.cell? ⟨w1.heap.size, 2, none⟩ = some (.slice a1 ss.length c1) ∧ wx.cell? ⟨w1.heap.size, 3, none⟩ = some (.string { data := #[] }) ∧ wx.cell? ⟨w1.heap.size, 4, none⟩ = some (.string pt) ∧ wx.cell? ⟨w.heap.size, 5, none⟩ = some (.int .i64 f5)) (go_keep) (fail)
  rw [show IntKind.i64.wrap (t + f5) = t + f5 from IntWalk.i64_in _ (by omega)]
  have HF5 := Lib.hid (HX5.out.z.five (.int .i64 p) (.bool fl) (.slice a1 ss.length c1) (.string E0) (.string pt)).at5
  have HL5 := Lib.hid (below_five HX5.out.low (by omega : w.heap.size ≤ w.heap.size + 3) (.int .i64 p) (.bool fl) (.slice a1 ss.length c1) (.string E0) (.string pt)).drew
  have HO5 := Lib.hid (ownsRow_mono (ownsRow_five (B := w.heap.size + 3) (ownsRow_below HOW.out HW1.out) (by omega) (.int .i64 p) (.bool fl) (.slice a1 ss.length c1) (.string E0) (.string pt)).drew (by omega : w.heap.size ≤ w.heap.size + 1 + 1 + 1 + 1))
  clear b0 b1 b2 b3 b4
  go_wp2
  obtain ⟨g0, g1, g2, g3, g4⟩ := HF5.out
  try unfold E0 at g0 g1 g2 g3 g4
  rw [show w.heap.size + 3 = w.heap.size + 1 + 1 + 1 from rfl] at g0 g1 g2 g3 g4
  refine bodyPost_ret (v := .tuple #[.agg #[.int .i64 p, .bool fl, .slice a1 ss.length c1, .string E0, .string pt], .int .i64 (t + f5), .int .i64 0]) (by simp [results, Try.results10, go_sem, E0, g0, g1, g2, g3, g4]) rfl ?_
  exact ⟨a1, c1, rfl, HO5.out, HL5.out⟩
end Go.Proofs.Ytpnkaoigpefmiaa
