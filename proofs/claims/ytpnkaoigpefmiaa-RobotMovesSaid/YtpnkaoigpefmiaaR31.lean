/- Put. -/
import Derived.Test.YtpnkaoigpefmiaaR29
namespace Go.Proofs.Ytpnkaoigpefmiaa
open Go.RowKit
set_option linter.unusedVariables false
set_option linter.unusedSimpArgs false

set_option maxRecDepth 100000 in
set_option maxHeartbeats 1000000 in
theorem put_err (m : Md) (r : Rb) (a : Option Addr) (c : Nat) (k i : Int) (w : World) (hr : RobIn w r a c)
    (hi0 : -9223372036854775808 ≤ i) (hi1 : i ≤ 9223372036854775807) (he : (reachOf m r k i).2.2 ≠ 0) :
    Calls Try.prog 14 #[m.val, r.val a c, .agg #[.int .i64 k, .int .i64 i]] w (GivesR w (putOf m r k i)) := by
  have HV := Lib.hid (show putOf m r k i = (R0, 0, (reachOf m r k i).2.2) by rw [putOf, if_pos he])
  obtain ⟨f0, f1, f2, f3, f4, f5, f6⟩ := m
  have X0 := B4.start w f0 f1 f2 f3 f4 f5 f6 r a c k i
  have V := Lib.hid (reach_any ⟨f0, f1, f2, f3, f4, f5, f6⟩ r a c k i _ (hr.below X0.low) hi0 hi1)
  have HX0 := Lib.hid X0
  rw [reach_err he] at V
  generalize (reachOf ⟨f0, f1, f2, f3, f4, f5, f6⟩ r k i).2.2 = er at *
  have hq : (er != 0) = true := by rw [bne_iff_ne]; exact he
  clear X0 hr he
  unfold Md.val Rb.val E0 at *
  go_enter Try.func14, Try.ntmps14
  go_wp2_with fail
  refine V.out.mono ?_
  rintro e w1 ⟨a1, c1, rfl, hown, hb1⟩
  have X1 := HX0.out.next hb1
  have hlt := X1.z.lt
  dsimp only [R0, Rb.val, List.length_nil, E0]
  have HE := Lib.hid ((X1.z.five (.int .i64 0) (.bool false) (.slice none 0 0) (.string E0) (.string E0)).alloc (.cells #[.int .i64 0, .bool false, .slice a1 0 c1, .string E0, .string E0] 26)).at5
  have HL5 := Lib.hid (below_five X1.low (by omega : w.heap.size ≤ w.heap.size + 3) (.int .i64 0) (.bool false) (.slice none 0 0) (.string E0) (.string E0))
  obtain ⟨c0, c1', c2, c3, c4⟩ := X1.z.at5
  have hz := fun j => X1.z.free j
  unfold E0 at c3 c4
  clear X1 HX0 V hown hb1
  go_wp2
  obtain ⟨g0, g1, g2, g3, g4⟩ := HE.out
  unfold E0 at g0 g1 g2 g3 g4
  rw [show w.heap.size + 3 = w.heap.size + 1 + 1 + 1 from rfl] at g0 g1 g2 g3 g4
  refine bodyPost_ret (v := .tuple #[.agg #[.int .i64 0, .bool false, .slice none 0 0, .string E0, .string E0], .int .i64 0, .int .i64 er]) (by simp [results, Try.results14, go_sem, E0, g0, g1, g2, g3, g4]) rfl ?_
  rw [HV.out]; exact givesR0 (below_alloc' HL5.out _)
set_option maxRecDepth 100000 in
set_option maxHeartbeats 400000 in
theorem put_none (m : Md) (r : Rb) (a : Option Addr) (c : Nat) (k i : Int) (w : World) (hr : RobIn w r a c)
    (hi0 : -9223372036854775808 ≤ i) (hi1 : i ≤ 9223372036854775807) (p t : Int) (hre : reachOf m r k i = ({ r with pos := p }, t, 0)) (ht : 0 ≤ t ∧ t ≤ 2000000000) (hm : 0 ≤ m.put ∧ m.put ≤ 1000000) (hh : r.hand = E0) :
    Calls Try.prog 14 #[m.val, r.val a c, .agg #[.int .i64 k, .int .i64 i]] w (GivesR w (R0, 0, 11)) := by
  obtain ⟨f0, f1, f2, f3, f4, f5, f6⟩ := m
  obtain ⟨p0, fl, ss, pt, ha⟩ := r
  have X0 := B4.start w f0 f1 f2 f3 f4 f5 f6 ⟨p0, fl, ss, pt, ha⟩ a c k i
  have V := Lib.hid (reach_any ⟨f0, f1, f2, f3, f4, f5, f6⟩ ⟨p0, fl, ss, pt, ha⟩ a c k i _ (hr.below X0.low) hi0 hi1)
  have HX0 := Lib.hid X0
  rw [hre] at V
  clear X0 hre
  have t0 := ht.1
  have t1 := ht.2
  have u0 := hm.1
  have u1 := hm.2
  dsimp only at u0 u1
  clear ht hm
  dsimp only at hh
  subst hh
  clear hr
  unfold Md.val Rb.val E0 at *
  go_enter Try.func14, Try.ntmps14
  go_wp2_with fail
  refine V.out.mono ?_
  rintro e w1 ⟨a1, c1, rfl, hown, hb1⟩
  have X1 := HX0.out.next hb1
  have hlt := X1.z.lt
  have HX1 := Lib.hid X1
  have k1 : w.heap.size + 1 < w1.heap.size := by omega
  have k2 : w.heap.size + 1 + 1 < w1.heap.size := by omega
  have k3 : w.heap.size + 1 + 1 + 1 < w1.heap.size := by omega
  have k4 : w.heap.size + 2 < w1.heap.size := by omega
  obtain ⟨b0, b1, b2, b3, b4⟩ := X1.r.at5
  obtain ⟨m0, m1, m2, m3, m4, m5, m6, m7⟩ := X1.m
  have j0 := X1.e.g0
  have j1 := X1.e.g1
  simp only [World.size_alloc] at hown
  dsimp only [Rb.val] at b0 b1 b2 b3 b4 hown ⊢
  try unfold E0 at b4
  have HE := Lib.hid ((X1.z.five (.int .i64 0) (.bool false) (.slice none 0 0) (.string E0) (.string E0)).alloc (.cells #[.int .i64 p, .bool fl, .slice a1 ss.length c1, .string pt, .string E0] 26)).at5
  have HL5 := Lib.hid (below_five X1.low (by omega : w.heap.size ≤ w.heap.size + 3) (.int .i64 0) (.bool false) (.slice none 0 0) (.string E0) (.string E0))
  obtain ⟨c0, c1', c2, c3, c4⟩ := X1.z.at5
  have hz := fun j => X1.z.free j
  unfold E0 at c3 c4
  clear X1 HX0 V hown hb1 HX1
  go_wp2
  obtain ⟨g0, g1, g2, g3, g4⟩ := HE.out
  unfold E0 at g0 g1 g2 g3 g4
  rw [show w.heap.size + 3 = w.heap.size + 1 + 1 + 1 from rfl] at g0 g1 g2 g3 g4
  refine bodyPost_ret (v := .tuple #[.agg #[.int .i64 0, .bool false, .slice none 0 0, .string E0, .string E0], .int .i64 0, .int .i64 11]) (by simp [results, Try.results14, go_sem, E0, g0, g1, g2, g3, g4]) rfl ?_
  exact givesR0 (below_alloc' HL5.out _)
set_option maxRecDepth 100000 in
set_option maxHeartbeats 400000 in
theorem put_drive (m : Md) (r : Rb) (a : Option Addr) (c : Nat) (i : Int) (w : World) (hr : RobIn w r a c)
    (hi0 : -9223372036854775808 ≤ i) (hi1 : i ≤ 9223372036854775807) (p t : Int) (hre : reachOf m r 1 i = ({ r with pos := p }, t, 0)) (ht : 0 ≤ t ∧ t ≤ 2000000000) (hm : 0 ≤ m.put ∧ m.put ≤ 1000000) (hh : r.hand ≠ E0) :
    Calls Try.prog 14 #[m.val, r.val a c, .agg #[.int .i64 1, .int .i64 i]] w (GivesR w ({ r with pos := p, hand := E0 }, t + m.put, 0)) := by
  obtain ⟨f0, f1, f2, f3, f4, f5, f6⟩ := m
  obtain ⟨p0, fl, ss, pt, ha⟩ := r
  have X0 := B4.start w f0 f1 f2 f3 f4 f5 f6 ⟨p0, fl, ss, pt, ha⟩ a c 1 i
  have V := Lib.hid (reach_any ⟨f0, f1, f2, f3, f4, f5, f6⟩ ⟨p0, fl, ss, pt, ha⟩ a c 1 i _ (hr.below X0.low) hi0 hi1)
  have HX0 := Lib.hid X0
  rw [hre] at V
  clear X0 hre
  have t0 := ht.1
  have t1 := ht.2
  have u0 := hm.1
  have u1 := hm.2
  dsimp only at u0 u1
  clear ht hm
  have q5 := ne_isEmpty hh
  dsimp only at q5
  clear hh hr
  unfold Md.val Rb.val E0 at *
  go_enter Try.func14, Try.ntmps14
  go_wp2_with fail
  refine V.out.mono ?_
  rintro e w1 ⟨a1, c1, rfl, hown, hb1⟩
  have X1 := HX0.out.next hb1
  have hlt := X1.z.lt
  have HX1 := Lib.hid X1
  have k1 : w.heap.size + 1 < w1.heap.size := by omega
  have k2 : w.heap.size + 1 + 1 < w1.heap.size := by omega
  have k3 : w.heap.size + 1 + 1 + 1 < w1.heap.size := by omega
  have k4 : w.heap.size + 2 < w1.heap.size := by omega
  obtain ⟨b0, b1, b2, b3, b4⟩ := X1.r.at5
  obtain ⟨m0, m1, m2, m3, m4, m5, m6, m7⟩ := X1.m
  have j0 := X1.e.g0
  have j1 := X1.e.g1
  simp only [World.size_alloc] at hown
  dsimp only [Rb.val] at b0 b1 b2 b3 b4 hown ⊢
  try unfold E0 at b4
  clear HX0 V hb1
  go_wp2_with fail
  refine (cell_none w1.heap.size 1 i _ rfl rfl).mono ?_
  rintro e w2 ⟨rfl, rfl⟩
  have HOW := Lib.hid hown
  have HW : Below w1.heap.size w1 ((w1.alloc (.cells #[.int .i64 p, .bool fl, .slice a1 ss.length c1, .string pt, .string E0] 26)).alloc (.cells #[.int .i64 1, .int .i64 i] 28)) := below_alloc' (below_alloc (Below.refl w1.heap.size w1) _) _
  have X5 := X1.kept HW hlt
  have N5 := (Blk.new w1 26 #[.int .i64 p, .bool fl, .slice a1 ss.length c1, .string pt, .string E0]).alloc (.cells #[.int .i64 1, .int .i64 i] 28)
  unfold E0 at HW X5 N5
  clear X1 HX1 hown
  go_wp2
  obtain ⟨W5, hW5⟩ : ∃ W5, W5 = (w1.alloc (.cells #[.int .i64 p, .bool fl, .slice a1 ss.length c1, .string pt, .string { data := #[] }] 26)).alloc (.cells #[.int .i64 1, .int .i64 i] 28) := ⟨_, rfl⟩
  rw [← hW5] at HW X5 N5 ⊢
  clear hW5
  have l5 : w1.heap.size ≠ w.heap.size + 1 + 1 + 1 := by omega
  have l6 : w.heap.size + 1 + 1 + 1 ≠ w1.heap.size := by omega
  have l7 : w1.heap.size ≠ w.heap.size + 3 := by omega
  have l8 : w.heap.size + 3 ≠ w1.heap.size := by omega
  have l9 : w.heap.size ≠ w1.heap.size := by omega
  have la : w.heap.size + 1 + 1 + 1 ≠ w.heap.size := by omega
  have lb : w.heap.size ≠ w.heap.size + 1 + 1 + 1 := by omega
  obtain ⟨b0, b1, b2, b3, b4⟩ := N5.at5
  obtain ⟨c0, c1', c2, c3, c4⟩ := X5.z.at5
  have hz := fun j => X5.z.free j
  try unfold E0 at b3
  try unfold E0 at b4
  unfold E0 at c3 c4
  have m5 := X5.m.g6
  have HX5 := Lib.hid X5
  have HN5 := Lib.hid N5
  have HW1 := Lib.hid HW
  clear X5 N5 HW
  go_region_held3 (fun wx => wx.cell? ⟨w1.heap.size, 0, none⟩ = some (.int .i64 p) ∧ wx.cell? ⟨w1.heap.size, 1, none⟩ = some (.bool fl) ∧ wx.cell? ⟨w1.heap.size, 2, none⟩ = some (.slice a1 ss.length c1) ∧ wx.cell? ⟨w1.heap.size, 3, none⟩ = some (.string pt) ∧ wx.cell? ⟨w1.heap.size, 4, none⟩ = some (.string { data := #[] }) ∧ wx.cell? ⟨w.heap.size, 6, none⟩ = some (.int .i64 f6)) (go_keep) (fail)
  rw [show IntKind.i64.wrap (t + f6) = t + f6 from IntWalk.i64_in _ (by omega)]
  have HF5 := Lib.hid (HX5.out.z.five (.int .i64 p) (.bool fl) (.slice a1 ss.length c1) (.string pt) (.string E0)).at5
  have HL5 := Lib.hid (below_five HX5.out.low (by omega : w.heap.size ≤ w.heap.size + 3) (.int .i64 p) (.bool fl) (.slice a1 ss.length c1) (.string pt) (.string E0)).drew
  have HO5 := Lib.hid (ownsRow_mono (ownsRow_five (B := w.heap.size + 3) (ownsRow_below HOW.out HW1.out) (by omega) (.int .i64 p) (.bool fl) (.slice a1 ss.length c1) (.string pt) (.string E0)).drew (by omega : w.heap.size ≤ w.heap.size + 1 + 1 + 1 + 1))
  clear b0 b1 b2 b3 b4
  go_wp2
  obtain ⟨g0, g1, g2, g3, g4⟩ := HF5.out
  try unfold E0 at g0 g1 g2 g3 g4
  rw [show w.heap.size + 3 = w.heap.size + 1 + 1 + 1 from rfl] at g0 g1 g2 g3 g4
  refine bodyPost_ret (v := .tuple #[.agg #[.int .i64 p, .bool fl, .slice a1 ss.length c1, .string pt, .string E0], .int .i64 (t + f6), .int .i64 0]) (by simp [results, Try.results14, go_sem, E0, g0, g1, g2, g3, g4]) rfl ?_
  exact ⟨a1, c1, rfl, HO5.out, HL5.out⟩
set_option maxRecDepth 100000 in
set_option maxHeartbeats 400000 in
theorem put_port (m : Md) (r : Rb) (a : Option Addr) (c : Nat) (i : Int) (w : World) (hr : RobIn w r a c)
    (hi0 : -9223372036854775808 ≤ i) (hi1 : i ≤ 9223372036854775807) (p t : Int) (hre : reachOf m r 2 i = ({ r with pos := p }, t, 0)) (ht : 0 ≤ t ∧ t ≤ 2000000000) (hm : 0 ≤ m.put ∧ m.put ≤ 1000000) (hh : r.hand ≠ E0) (hbe : r.port = E0) :
    Calls Try.prog 14 #[m.val, r.val a c, .agg #[.int .i64 2, .int .i64 i]] w (GivesR w ({ r with pos := p, port := r.hand, hand := E0 }, t + m.put, 0)) := by
  obtain ⟨f0, f1, f2, f3, f4, f5, f6⟩ := m
  obtain ⟨p0, fl, ss, pt, ha⟩ := r
  have X0 := B4.start w f0 f1 f2 f3 f4 f5 f6 ⟨p0, fl, ss, pt, ha⟩ a c 2 i
  have V := Lib.hid (reach_any ⟨f0, f1, f2, f3, f4, f5, f6⟩ ⟨p0, fl, ss, pt, ha⟩ a c 2 i _ (hr.below X0.low) hi0 hi1)
  have HX0 := Lib.hid X0
  rw [hre] at V
  clear X0 hre
  have t0 := ht.1
  have t1 := ht.2
  have u0 := hm.1
  have u1 := hm.2
  dsimp only at u0 u1
  clear ht hm
  dsimp only at hbe
  subst hbe
  have q5 := ne_isEmpty hh
  dsimp only at q5
  clear hh hr
  unfold Md.val Rb.val E0 at *
  go_enter Try.func14, Try.ntmps14
  go_wp2_with fail
  refine V.out.mono ?_
  rintro e w1 ⟨a1, c1, rfl, hown, hb1⟩
  have X1 := HX0.out.next hb1
  have hlt := X1.z.lt
  have HX1 := Lib.hid X1
  have k1 : w.heap.size + 1 < w1.heap.size := by omega
  have k2 : w.heap.size + 1 + 1 < w1.heap.size := by omega
  have k3 : w.heap.size + 1 + 1 + 1 < w1.heap.size := by omega
  have k4 : w.heap.size + 2 < w1.heap.size := by omega
  obtain ⟨b0, b1, b2, b3, b4⟩ := X1.r.at5
  obtain ⟨m0, m1, m2, m3, m4, m5, m6, m7⟩ := X1.m
  have j0 := X1.e.g0
  have j1 := X1.e.g1
  simp only [World.size_alloc] at hown
  dsimp only [Rb.val] at b0 b1 b2 b3 b4 hown ⊢
  try unfold E0 at b4
  clear HX0 V hb1
  go_wp2_with fail
  refine (cell_port w1.heap.size i _).mono ?_
  rintro e w2 ⟨rfl, rfl⟩
  have HOW := Lib.hid hown
  have HW : Below w1.heap.size w1 ((w1.alloc (.cells #[.int .i64 p, .bool fl, .slice a1 ss.length c1, .string ha, .string E0] 26)).alloc (.cells #[.int .i64 2, .int .i64 i] 28)) := below_alloc' (below_alloc (Below.refl w1.heap.size w1) _) _
  have X5 := X1.kept HW hlt
  have N5 := (Blk.new w1 26 #[.int .i64 p, .bool fl, .slice a1 ss.length c1, .string ha, .string E0]).alloc (.cells #[.int .i64 2, .int .i64 i] 28)
  unfold E0 at HW X5 N5
  clear X1 HX1 hown
  go_wp2
  obtain ⟨W5, hW5⟩ : ∃ W5, W5 = (w1.alloc (.cells #[.int .i64 p, .bool fl, .slice a1 ss.length c1, .string ha, .string { data := #[] }] 26)).alloc (.cells #[.int .i64 2, .int .i64 i] 28) := ⟨_, rfl⟩
  rw [← hW5] at HW X5 N5 ⊢
  clear hW5
  have l5 : w1.heap.size ≠ w.heap.size + 1 + 1 + 1 := by omega
  have l6 : w.heap.size + 1 + 1 + 1 ≠ w1.heap.size := by omega
  have l7 : w1.heap.size ≠ w.heap.size + 3 := by omega
  have l8 : w.heap.size + 3 ≠ w1.heap.size := by omega
  have l9 : w.heap.size ≠ w1.heap.size := by omega
  have la : w.heap.size + 1 + 1 + 1 ≠ w.heap.size := by omega
  have lb : w.heap.size ≠ w.heap.size + 1 + 1 + 1 := by omega
  obtain ⟨b0, b1, b2, b3, b4⟩ := N5.at5
  obtain ⟨c0, c1', c2, c3, c4⟩ := X5.z.at5
  have hz := fun j => X5.z.free j
  try unfold E0 at b3
  try unfold E0 at b4
  unfold E0 at c3 c4
  have m5 := X5.m.g6
  have HX5 := Lib.hid X5
  have HN5 := Lib.hid N5
  have HW1 := Lib.hid HW
  clear X5 N5 HW
  go_region_held3 (fun wx => wx.cell? ⟨w1.heap.size, 0, none⟩ = some (.int .i64 p) ∧ wx.cell? ⟨w1.heap.size, 1, none⟩ = some (.bool fl) ∧ wx.cell? ⟨w1.heap.size, 2, none⟩ = some (.slice a1 ss.length c1) ∧ wx.cell? ⟨w1.heap.size, 3, none⟩ = some (.string ha) ∧ wx.cell? ⟨w1.heap.size, 4, none⟩ = some (.string { data := #[] }) ∧ wx.cell? ⟨w.heap.size, 6, none⟩ = some (.int .i64 f6)) (go_keep) (fail)
  rw [show IntKind.i64.wrap (t + f6) = t + f6 from IntWalk.i64_in _ (by omega)]
  have HF5 := Lib.hid (HX5.out.z.five (.int .i64 p) (.bool fl) (.slice a1 ss.length c1) (.string ha) (.string E0)).at5
  have HL5 := Lib.hid (below_five HX5.out.low (by omega : w.heap.size ≤ w.heap.size + 3) (.int .i64 p) (.bool fl) (.slice a1 ss.length c1) (.string ha) (.string E0)).drew
  have HO5 := Lib.hid (ownsRow_mono (ownsRow_five (B := w.heap.size + 3) (ownsRow_below HOW.out HW1.out) (by omega) (.int .i64 p) (.bool fl) (.slice a1 ss.length c1) (.string ha) (.string E0)).drew (by omega : w.heap.size ≤ w.heap.size + 1 + 1 + 1 + 1))
  clear b0 b1 b2 b3 b4
  go_wp2
  obtain ⟨g0, g1, g2, g3, g4⟩ := HF5.out
  try unfold E0 at g0 g1 g2 g3 g4
  rw [show w.heap.size + 3 = w.heap.size + 1 + 1 + 1 from rfl] at g0 g1 g2 g3 g4
  refine bodyPost_ret (v := .tuple #[.agg #[.int .i64 p, .bool fl, .slice a1 ss.length c1, .string ha, .string E0], .int .i64 (t + f6), .int .i64 0]) (by simp [results, Try.results14, go_sem, E0, g0, g1, g2, g3, g4]) rfl ?_
  exact ⟨a1, c1, rfl, HO5.out, HL5.out⟩
set_option maxRecDepth 100000 in
set_option maxHeartbeats 400000 in
theorem put_port_full (m : Md) (r : Rb) (a : Option Addr) (c : Nat) (i : Int) (w : World) (hr : RobIn w r a c)
    (hi0 : -9223372036854775808 ≤ i) (hi1 : i ≤ 9223372036854775807) (p t : Int) (hre : reachOf m r 2 i = ({ r with pos := p }, t, 0)) (ht : 0 ≤ t ∧ t ≤ 2000000000) (hm : 0 ≤ m.put ∧ m.put ≤ 1000000) (hh : r.hand ≠ E0) (hbe : r.port ≠ E0) :
    Calls Try.prog 14 #[m.val, r.val a c, .agg #[.int .i64 2, .int .i64 i]] w (GivesR w (R0, 0, 12)) := by
  obtain ⟨f0, f1, f2, f3, f4, f5, f6⟩ := m
  obtain ⟨p0, fl, ss, pt, ha⟩ := r
  have X0 := B4.start w f0 f1 f2 f3 f4 f5 f6 ⟨p0, fl, ss, pt, ha⟩ a c 2 i
  have V := Lib.hid (reach_any ⟨f0, f1, f2, f3, f4, f5, f6⟩ ⟨p0, fl, ss, pt, ha⟩ a c 2 i _ (hr.below X0.low) hi0 hi1)
  have HX0 := Lib.hid X0
  rw [hre] at V
  clear X0 hre
  have t0 := ht.1
  have t1 := ht.2
  have u0 := hm.1
  have u1 := hm.2
  dsimp only at u0 u1
  clear ht hm
  have q6 := ne_isEmpty hbe
  dsimp only at q6
  have q5 := ne_isEmpty hh
  dsimp only at q5
  clear hh hr
  unfold Md.val Rb.val E0 at *
  go_enter Try.func14, Try.ntmps14
  go_wp2_with fail
  refine V.out.mono ?_
  rintro e w1 ⟨a1, c1, rfl, hown, hb1⟩
  have X1 := HX0.out.next hb1
  have hlt := X1.z.lt
  have HX1 := Lib.hid X1
  have k1 : w.heap.size + 1 < w1.heap.size := by omega
  have k2 : w.heap.size + 1 + 1 < w1.heap.size := by omega
  have k3 : w.heap.size + 1 + 1 + 1 < w1.heap.size := by omega
  have k4 : w.heap.size + 2 < w1.heap.size := by omega
  obtain ⟨b0, b1, b2, b3, b4⟩ := X1.r.at5
  obtain ⟨m0, m1, m2, m3, m4, m5, m6, m7⟩ := X1.m
  have j0 := X1.e.g0
  have j1 := X1.e.g1
  simp only [World.size_alloc] at hown
  dsimp only [Rb.val] at b0 b1 b2 b3 b4 hown ⊢
  try unfold E0 at b4
  clear HX0 V hown hb1
  go_wp2_with fail
  refine (cell_port w1.heap.size i _).mono ?_
  rintro e w2 ⟨rfl, rfl⟩
  have HE := Lib.hid (((X1.z.five (.int .i64 0) (.bool false) (.slice none 0 0) (.string E0) (.string E0)).alloc (.cells #[.int .i64 p, .bool fl, .slice a1 ss.length c1, .string pt, .string ha] 26)).alloc (.cells #[.int .i64 2, .int .i64 i] 28)).at5
  have HL5 := Lib.hid (below_five X1.low (by omega : w.heap.size ≤ w.heap.size + 3) (.int .i64 0) (.bool false) (.slice none 0 0) (.string E0) (.string E0))
  obtain ⟨c0, c1', c2, c3, c4⟩ := X1.z.at5
  have hz := fun j => X1.z.free j
  unfold E0 at c3 c4
  clear X1 HX1
  go_wp2
  obtain ⟨g0, g1, g2, g3, g4⟩ := HE.out
  unfold E0 at g0 g1 g2 g3 g4
  rw [show w.heap.size + 3 = w.heap.size + 1 + 1 + 1 from rfl] at g0 g1 g2 g3 g4
  refine bodyPost_ret (v := .tuple #[.agg #[.int .i64 0, .bool false, .slice none 0 0, .string E0, .string E0], .int .i64 0, .int .i64 12]) (by simp [results, Try.results14, go_sem, E0, g0, g1, g2, g3, g4]) rfl ?_
  exact givesR0 (below_alloc' (below_alloc' HL5.out _) _)
set_option maxRecDepth 100000 in
set_option maxHeartbeats 400000 in
theorem put_slot_full (m : Md) (r : Rb) (a : Option Addr) (c : Nat) (i : Nat) (w : World) (hr : RobIn w r a c)
    (hi0 : -9223372036854775808 ≤ (i : Int)) (hi1 : (i : Int) ≤ 9223372036854775807) (p t : Int) (hre : reachOf m r 0 i = ({ r with pos := p }, t, 0)) (ht : 0 ≤ t ∧ t ≤ 2000000000) (hm : 0 ≤ m.put ∧ m.put ≤ 1000000) (hh : r.hand ≠ E0) (hlen : r.slots.length ≤ 1000000) (hil : i < r.slots.length) (hbe : r.slots[i] ≠ E0) :
    Calls Try.prog 14 #[m.val, r.val a c, .agg #[.int .i64 0, .int .i64 i]] w (GivesR w (R0, 0, 12)) := by
  obtain ⟨f0, f1, f2, f3, f4, f5, f6⟩ := m
  obtain ⟨p0, fl, ss, pt, ha⟩ := r
  have X0 := B4.start w f0 f1 f2 f3 f4 f5 f6 ⟨p0, fl, ss, pt, ha⟩ a c 0 i
  have V := Lib.hid (reach_any ⟨f0, f1, f2, f3, f4, f5, f6⟩ ⟨p0, fl, ss, pt, ha⟩ a c 0 i _ (hr.below X0.low) hi0 hi1)
  have HX0 := Lib.hid X0
  rw [hre] at V
  clear X0 hre
  have t0 := ht.1
  have t1 := ht.2
  have u0 := hm.1
  have u1 := hm.2
  dsimp only at u0 u1
  clear ht hm
  have q5 := ne_isEmpty hh
  dsimp only at hil hlen q5
  have q6 := ne_isEmpty hbe
  dsimp only at q6
  clear hbe
  clear hh hr
  unfold Md.val Rb.val E0 at *
  go_enter Try.func14, Try.ntmps14
  go_wp2_with fail
  refine V.out.mono ?_
  rintro e w1 ⟨a1, c1, rfl, hown, hb1⟩
  have X1 := HX0.out.next hb1
  have hlt := X1.z.lt
  have HX1 := Lib.hid X1
  have k1 : w.heap.size + 1 < w1.heap.size := by omega
  have k2 : w.heap.size + 1 + 1 < w1.heap.size := by omega
  have k3 : w.heap.size + 1 + 1 + 1 < w1.heap.size := by omega
  have k4 : w.heap.size + 2 < w1.heap.size := by omega
  obtain ⟨b0, b1, b2, b3, b4⟩ := X1.r.at5
  obtain ⟨m0, m1, m2, m3, m4, m5, m6, m7⟩ := X1.m
  have j0 := X1.e.g0
  have j1 := X1.e.g1
  simp only [World.size_alloc] at hown
  dsimp only [Rb.val] at b0 b1 b2 b3 b4 hown ⊢
  try unfold E0 at b4
  have hpos : 0 < ss.length := by omega
  obtain ⟨g, rfl, hg0, hg1⟩ := own_addr hown hpos
  have HOW := Lib.hid hown
  clear HX0 V hown hb1
  go_wp2_with fail
  refine (cell_slot' w1.heap.size i ss.length c1 g _ (by simp) hil hlen (by rw [World.cell?_alloc_at _ _ _ _ rfl]; rfl)).mono ?_
  rintro e w2 ⟨rfl, hb2, hs2⟩
  have X2 := (X1.next (below_alloc (Below.refl _ _) _)).next hb2
  have N2 := (Blk.new w1 26 #[.int .i64 p, .bool fl, .slice (some ⟨g, 0, none⟩) ss.length c1, .string pt, .string ha]).below hb2
  have O2 := ownsRow_below (HOW.out.alloc _) hb2
  have hs2 : w2.heap.size = w1.heap.size + 1 + 1 := by rw [hs2]; simp
  have dv : w2.cell? ⟨g, i, none⟩ = some (.string ss[i]) := by rw [O2.cellAt i (by omega)]; simp [hil]
  have df := O2.frozenAt i
  generalize ss[i] = s at *
  have l3 : w.heap.size + 1 + 1 + 1 < w2.heap.size := by omega
  clear X1 N2 O2
  clear HOW
  have HE := Lib.hid ((X2.z.five (.int .i64 0) (.bool false) (.slice none 0 0) (.string E0) (.string E0))).at5
  have HL5 := Lib.hid (below_five X2.low (by omega : w.heap.size ≤ w.heap.size + 3) (.int .i64 0) (.bool false) (.slice none 0 0) (.string E0) (.string E0))
  obtain ⟨c0, c1', c2, c3, c4⟩ := X2.z.at5
  have hz := fun j => X2.z.free j
  unfold E0 at c3 c4
  clear X2 HX1 hb2
  go_wp2
  obtain ⟨g0, g1, g2, g3, g4⟩ := HE.out
  unfold E0 at g0 g1 g2 g3 g4
  rw [show w.heap.size + 3 = w.heap.size + 1 + 1 + 1 from rfl] at g0 g1 g2 g3 g4
  refine bodyPost_ret (v := .tuple #[.agg #[.int .i64 0, .bool false, .slice none 0 0, .string E0, .string E0], .int .i64 0, .int .i64 12]) (by simp [results, Try.results14, go_sem, E0, g0, g1, g2, g3, g4]) rfl ?_
  exact givesR0 HL5.out
set_option maxRecDepth 100000 in
set_option maxHeartbeats 400000 in
theorem put_slot (m : Md) (r : Rb) (a : Option Addr) (c : Nat) (i : Nat) (w : World) (hr : RobIn w r a c)
    (hi0 : -9223372036854775808 ≤ (i : Int)) (hi1 : (i : Int) ≤ 9223372036854775807) (p t : Int) (hre : reachOf m r 0 i = ({ r with pos := p }, t, 0)) (ht : 0 ≤ t ∧ t ≤ 2000000000) (hm : 0 ≤ m.put ∧ m.put ≤ 1000000) (hh : r.hand ≠ E0) (hlen : r.slots.length ≤ 1000000) (hil : i < r.slots.length) (hbe : r.slots[i] = E0) :
    Calls Try.prog 14 #[m.val, r.val a c, .agg #[.int .i64 0, .int .i64 i]] w (GivesR w ({ r with pos := p, slots := r.slots.set i r.hand, hand := E0 }, t + m.put, 0)) := by
  obtain ⟨f0, f1, f2, f3, f4, f5, f6⟩ := m
  obtain ⟨p0, fl, ss, pt, ha⟩ := r
  have X0 := B4.start w f0 f1 f2 f3 f4 f5 f6 ⟨p0, fl, ss, pt, ha⟩ a c 0 i
  have V := Lib.hid (reach_any ⟨f0, f1, f2, f3, f4, f5, f6⟩ ⟨p0, fl, ss, pt, ha⟩ a c 0 i _ (hr.below X0.low) hi0 hi1)
  have HX0 := Lib.hid X0
  rw [hre] at V
  clear X0 hre
  have t0 := ht.1
  have t1 := ht.2
  have u0 := hm.1
  have u1 := hm.2
  dsimp only at u0 u1
  clear ht hm
  have q5 := ne_isEmpty hh
  dsimp only at hil hlen hbe q5
  clear hh hr
  unfold Md.val Rb.val E0 at *
  go_enter Try.func14, Try.ntmps14
  go_wp2_with fail
  refine V.out.mono ?_
  rintro e w1 ⟨a1, c1, rfl, hown, hb1⟩
  have X1 := HX0.out.next hb1
  have hlt := X1.z.lt
  have HX1 := Lib.hid X1
  have k1 : w.heap.size + 1 < w1.heap.size := by omega
  have k2 : w.heap.size + 1 + 1 < w1.heap.size := by omega
  have k3 : w.heap.size + 1 + 1 + 1 < w1.heap.size := by omega
  have k4 : w.heap.size + 2 < w1.heap.size := by omega
  obtain ⟨b0, b1, b2, b3, b4⟩ := X1.r.at5
  obtain ⟨m0, m1, m2, m3, m4, m5, m6, m7⟩ := X1.m
  have j0 := X1.e.g0
  have j1 := X1.e.g1
  simp only [World.size_alloc] at hown
  dsimp only [Rb.val] at b0 b1 b2 b3 b4 hown ⊢
  try unfold E0 at b4
  have hpos : 0 < ss.length := by omega
  obtain ⟨g, rfl, hg0, hg1⟩ := own_addr hown hpos
  have HOW := Lib.hid hown
  clear HX0 V hown hb1
  go_wp2_with fail
  refine (cell_slot' w1.heap.size i ss.length c1 g _ (by simp) hil hlen (by rw [World.cell?_alloc_at _ _ _ _ rfl]; rfl)).mono ?_
  rintro e w2 ⟨rfl, hb2, hs2⟩
  have X2 := (X1.next (below_alloc (Below.refl _ _) _)).next hb2
  have N2 := (Blk.new w1 26 #[.int .i64 p, .bool fl, .slice (some ⟨g, 0, none⟩) ss.length c1, .string pt, .string ha]).below hb2
  have O2 := ownsRow_below (HOW.out.alloc _) hb2
  have hs2 : w2.heap.size = w1.heap.size + 1 + 1 := by rw [hs2]; simp
  have dv : w2.cell? ⟨g, i, none⟩ = some (.string ss[i]) := by rw [O2.cellAt i (by omega)]; simp [hil]
  have df := O2.frozenAt i
  rw [hbe] at dv
  try unfold E0 at dv
  have hne : w1.heap.size ≠ g := by omega
  have hne' : g ≠ w1.heap.size := by omega
  obtain ⟨b0, b1, b2, b3, b4⟩ := N2.at5
  have hn := fun j => N2.free j
  have HW : Below (w.heap.size + 4) w2 ((w2.setCell ⟨g, i, none⟩ (.string ha)).setCell ⟨w1.heap.size, 4, none⟩ (.string E0)) := below_set (below_set (Below.refl _ _) (by omega) i _) (by omega) 4 _
  have X5 := X2.kept HW (by omega)
  have N5 := (N2.other (B' := g) i hne (.string ha)).set 4 (.string E0)
  simp only [List.setIfInBounds_toArray, List.set_cons_zero, List.set_cons_succ] at N5
  have O5 := ownsRow_other (B := w1.heap.size) (j := 4) (u := .string E0) (O2.stored i (.string ha)).1 hne
  clear HW X1 X2 HX1 N2 O2 hb2 hbe
  unfold E0 at X5 N5 O5
  go_wp2
  obtain ⟨W5, hW5⟩ : ∃ W5, W5 = (w2.setCell ⟨g, i, none⟩ (.string ha)).setCell ⟨w1.heap.size, 4, none⟩ (.string { data := #[] }) := ⟨_, rfl⟩
  rw [← hW5] at X5 N5 O5 ⊢
  have HO := Lib.hid O5
  clear hW5 O5 dv df b0 b1 b2 b3 b4 hn
  have l5 : w1.heap.size ≠ w.heap.size + 1 + 1 + 1 := by omega
  have l6 : w.heap.size + 1 + 1 + 1 ≠ w1.heap.size := by omega
  have l7 : w1.heap.size ≠ w.heap.size + 3 := by omega
  have l8 : w.heap.size + 3 ≠ w1.heap.size := by omega
  have l9 : w.heap.size ≠ w1.heap.size := by omega
  have la : w.heap.size + 1 + 1 + 1 ≠ w.heap.size := by omega
  have lb : w.heap.size ≠ w.heap.size + 1 + 1 + 1 := by omega
  obtain ⟨b0, b1, b2, b3, b4⟩ := N5.at5
  obtain ⟨c0, c1'', c2, c3, c4⟩ := X5.z.at5
  have hz := fun j => X5.z.free j
  try unfold E0 at b3
  try unfold E0 at b4
  unfold E0 at c3 c4
  have m5 := X5.m.g6
  have HX5 := Lib.hid X5
  have HN5 := Lib.hid N5
  clear X5 N5
  go_region_held3 (fun wx => wx.cell? ⟨w1.heap.size, 0, none⟩ = some (.int .i64 p) ∧ wx.cell? ⟨w1.heap.size, 1, none⟩ = some (.bool fl) ∧ wx.cell? ⟨w1.heap.size, 2, none⟩ = some (.slice (some ⟨g, 0, none⟩) ss.length c1) ∧ wx.cell? ⟨w1.heap.size, 3, none⟩ = some (.string pt) ∧ wx.cell? ⟨w1.heap.size, 4, none⟩ = some (.string { data := #[] }) ∧ wx.cell? ⟨w.heap.size, 6, none⟩ = some (.int .i64 f6)) (go_keep) (fail)
  rw [show IntKind.i64.wrap (t + f6) = t + f6 from IntWalk.i64_in _ (by omega)]
  have HF5 := Lib.hid (HX5.out.z.five (.int .i64 p) (.bool fl) (.slice (some ⟨g, 0, none⟩) ss.length c1) (.string pt) (.string E0)).at5
  have HL5 := Lib.hid (below_five HX5.out.low (by omega : w.heap.size ≤ w.heap.size + 3) (.int .i64 p) (.bool fl) (.slice (some ⟨g, 0, none⟩) ss.length c1) (.string pt) (.string E0)).drew
  have HO5 := Lib.hid (ownsRow_mono (ownsRow_five (B := w.heap.size + 3) (HO.out) (by omega) (.int .i64 p) (.bool fl) (.slice (some ⟨g, 0, none⟩) ss.length c1) (.string pt) (.string E0)).drew (by omega : w.heap.size ≤ w.heap.size + 1 + 1 + 1 + 1))
  clear b0 b1 b2 b3 b4
  go_wp2
  obtain ⟨g0, g1, g2, g3, g4⟩ := HF5.out
  try unfold E0 at g0 g1 g2 g3 g4
  rw [show w.heap.size + 3 = w.heap.size + 1 + 1 + 1 from rfl] at g0 g1 g2 g3 g4
  refine bodyPost_ret (v := .tuple #[.agg #[.int .i64 p, .bool fl, .slice (some ⟨g, 0, none⟩) ss.length c1, .string pt, .string E0], .int .i64 (t + f6), .int .i64 0]) (by simp [results, Try.results14, go_sem, E0, g0, g1, g2, g3, g4]) rfl ?_
  exact ⟨(some ⟨g, 0, none⟩), c1, by simp [Rb.val, E0], by have := HO5.out; simp only [List.length_set]; rw [List.map_set]; exact this, HL5.out⟩
end Go.Proofs.Ytpnkaoigpefmiaa
