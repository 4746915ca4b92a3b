/- The law RobotMoves: both work. -/
import Derived.Test.YtpnkaoigpefmiaaR57
namespace Go.Proofs.Ytpnkaoigpefmiaa
open Go.RowKit
set_option linter.unusedVariables false
set_option linter.unusedSimpArgs false

theorem few_len (r : Rb) : (fewR r).slots.length ≤ 70 := by
  unfold fewR
  split
  · simp; omega
  · omega
theorem pick_len2 (m : Md) (r : Rb) (k i : Int) (b : ByteArray) (h : r.slots.length ≤ 70) : (pickOf m r k i b).1.slots.length ≤ 70 := by
  have h0 : R0.slots.length ≤ 70 := by simp [R0]
  have h1 : (reachOf m r k i).1.slots.length ≤ 70 := by
    unfold reachOf
    split
    · exact h0
    · split
      · exact h0
      · split
        · exact h0
        · exact h
  unfold pickOf
  split
  · exact h0
  · split
    · exact h0
    · split
      · split
        · exact h0
        · exact h1
      · split
        · exact h0
        · rw [withOf_len]; exact h1
theorem put_len2 (m : Md) (r : Rb) (k i : Int) (h : r.slots.length ≤ 70) : (putOf m r k i).1.slots.length ≤ 70 := by
  have h0 : R0.slots.length ≤ 70 := by simp [R0]
  have h1 : (reachOf m r k i).1.slots.length ≤ 70 := by
    unfold reachOf
    split
    · exact h0
    · split
      · exact h0
      · split
        · exact h0
        · exact h
  unfold putOf
  split
  · exact h0
  · split
    · exact h0
    · split
      · exact h1
      · split
        · exact h0
        · rw [withOf_len]; exact h1
set_option maxRecDepth 100000 in
set_option maxHeartbeats 1000000 in
theorem moves_ok (HA : Awake) (m : Md) (r : Rb) (a : Option Addr) (c : Nat) (k i kb ib : Int) (b : ByteArray) (w : World) (hr : RobArg w r a c) (hbz : b.size ≤ maxLen)
    (hi0 : -9223372036854775808 ≤ i) (hi1 : i ≤ 9223372036854775807) (hib0 : -9223372036854775808 ≤ ib) (hib1 : ib ≤ 9223372036854775807) (he : (pickOf m (fewR r) k i b).2.2 = 0) (hf : (putOf m (pickOf m (fewR r) k i b).1 kb ib).2.2 = 0) :
    Calls Try.prog 5 #[m.val, r.val a c, .agg #[.int .i64 k, .int .i64 i], .agg #[.int .i64 kb, .int .i64 ib], .string b] w fun e w' => e = .returned (.bool true) ∧ Below w.heap.size w w' := by
  have P := picked he
  have va := picked_valid P
  have hh := ne_isEmpty P.hand
  have ht := travOf_in m (fewR r).pos (posOf m (fewR r) k i).1
  have htm := P.time
  have hmk : 0 ≤ m.pick ∧ m.pick ≤ 1000000 := P.valid.mok.2.2.2.2.2.1
  have ht1 : ¬ (pickOf m (fewR r) k i b).2.1 < m.pick := by omega
  have hlen := pick_len m (fewR r) k i b hr.few.len
  have hsz := sz_pick (m := m) (items_sz hr.few.size) k i hbz
  have hpi : -9223372036854775808 ≤ (pickOf m (fewR r) k i b).1.pos ∧ (pickOf m (fewR r) k i b).1.pos ≤ 9223372036854775807 := by rw [P.at_]; exact posOf_int P.pos
  have c16 : ∀ (wx : World) (a3 : Option Addr) (c3 base : Nat), wx.ownsRow base 9 1 (.slice a3 (pickOf m (fewR r) k i b).1.slots.length c3) (pickOf m (fewR r) k i b).1.slots.length ((pickOf m (fewR r) k i b).1.slots.map Value.string) → Hid (Calls Try.prog 16 #[m.val, (pickOf m (fewR r) k i b).1.val a3 c3] wx fun e w' => e = .returned (.bool true) ∧ Below wx.heap.size wx w') := fun wx a3 c3 base h => Lib.hid (by
    have := valid_any m _ a3 c3 wx (in_own h hlen hsz hpi)
    rw [decide_eq_true va] at this; exact this)
  have c14 : ∀ (wx : World) (a3 : Option Addr) (c3 base : Nat), wx.ownsRow base 9 1 (.slice a3 (pickOf m (fewR r) k i b).1.slots.length c3) (pickOf m (fewR r) k i b).1.slots.length ((pickOf m (fewR r) k i b).1.slots.map Value.string) → Hid (Calls Try.prog 14 #[m.val, (pickOf m (fewR r) k i b).1.val a3 c3, .agg #[.int .i64 kb, .int .i64 ib]] wx (GivesR wx (putOf m (pickOf m (fewR r) k i b).1 kb ib))) := fun wx a3 c3 base h => Lib.hid (put_any m _ a3 c3 kb ib wx (in_own h hlen hsz hpi) hib0 hib1)
  have Q := placed hf
  have MM := moved P Q
  have hsz2 := sz_put (m := m) hsz kb ib
  have hlen2 := put_len m (pickOf m (fewR r) k i b).1 kb ib hlen
  have hpi2 : -9223372036854775808 ≤ (putOf m (pickOf m (fewR r) k i b).1 kb ib).1.pos ∧ (putOf m (pickOf m (fewR r) k i b).1 kb ib).1.pos ≤ 9223372036854775807 := by rw [Q.at_]; exact posOf_int Q.pos
  have cv : ∀ (wx : World) (a3 : Option Addr) (c3 base : Nat), wx.ownsRow base 9 1 (.slice a3 (putOf m (pickOf m (fewR r) k i b).1 kb ib).1.slots.length c3) (putOf m (pickOf m (fewR r) k i b).1 kb ib).1.slots.length ((putOf m (pickOf m (fewR r) k i b).1 kb ib).1.slots.map Value.string) → Hid (Calls Try.prog 16 #[m.val, (putOf m (pickOf m (fewR r) k i b).1 kb ib).1.val a3 c3] wx fun e w' => e = .returned (.bool true) ∧ Below wx.heap.size wx w') := fun wx a3 c3 base h => Lib.hid (by
    have := valid_any m _ a3 c3 wx (in_own h hlen2 hsz2 hpi2)
    rw [decide_eq_true MM.vb] at this; exact this)
  have ch : ∀ (wx : World) (a3 : Option Addr) (c3 : Nat), RobIn wx (putOf m (pickOf m (fewR r) k i b).1 kb ib).1 a3 c3 → Hid (Calls Try.prog 18 #[(putOf m (pickOf m (fewR r) k i b).1 kb ib).1.val a3 c3] wx fun e w' => ∃ v, e = .returned v ∧ w'.ownsRow wx.heap.size 9 1 v (allOf (putOf m (pickOf m (fewR r) k i b).1 kb ib).1).length ((allOf (putOf m (pickOf m (fewR r) k i b).1 kb ib).1).map Value.string) ∧ Below wx.heap.size wx w') := fun wx a3 c3 h => Lib.hid (held_any _ a3 c3 wx h.strs h.cap h.nil h.len)
  have hin2 : ∀ (wx : World) (a3 : Option Addr) (c3 base : Nat), wx.ownsRow base 9 1 (.slice a3 (putOf m (pickOf m (fewR r) k i b).1 kb ib).1.slots.length c3) (putOf m (pickOf m (fewR r) k i b).1 kb ib).1.slots.length ((putOf m (pickOf m (fewR r) k i b).1 kb ib).1.slots.map Value.string) → RobIn wx (putOf m (pickOf m (fewR r) k i b).1 kb ib).1 a3 c3 := fun wx a3 c3 base h => in_own h hlen2 hsz2 hpi2
  have chr : ∀ wx, Below w.heap.size w wx → Hid (Calls Try.prog 18 #[(fewR r).val a c] wx fun e w' => ∃ v, e = .returned v ∧ w'.ownsRow wx.heap.size 9 1 v (allOf (fewR r)).length ((allOf (fewR r)).map Value.string) ∧ Below wx.heap.size wx w') := fun wx hb => Lib.hid (held_any _ a c wx (hr.few.strs.below hb) hr.few.cap hr.few.nil hr.few.len)
  have cfar : ∀ wx, Hid (Calls Try.prog 17 #[m.val] wx fun e w' => e = .returned (.int .i64 (farOf m)) ∧ Below wx.heap.size wx w') := fun wx => Lib.hid (farthest_any m wx)
  have hl1 : (allOf (fewR r)).length ≤ 1000000 := by have := few_len r; simp [allOf]; omega
  have hl2 : (allOf (putOf m (pickOf m (fewR r) k i b).1 kb ib).1).length ≤ 1000000 := by have := put_len2 m _ kb ib (pick_len2 m _ k i b (few_len r)); simp [allOf]; omega
  have hput : 0 ≤ m.put ∧ m.put ≤ 1000000 := Q.valid.mok.2.2.2.2.2.2
  have hpik := hmk
  have hfar := farOf_in m
  have HMM := Lib.hid MM
  have HFA := Lib.hid MM.t2
  have hhb := MM.handb
  clear Q MM hsz2 hlen2 hpi2
  clear P va ht htm hmk hlen hsz hpi hib0 hib1
  obtain ⟨f0, f1, f2, f3, f4, f5, f6⟩ := m
  have hrf := hr.few
  have X0 := D4.start w f0 f1 f2 f3 f4 f5 f6 r a c k i kb ib
  have V := Lib.hid (few_any r a c ((((w.alloc (.cells #[.int .i64 f0, .int .i64 f1, .int .i64 f2, .int .i64 f3, .int .i64 f4, .int .i64 f5, .int .i64 f6] 23)).alloc (.cells #[.int .i64 r.pos, .bool r.failed, .slice a r.slots.length c, .string r.port, .string r.hand] 26)).alloc (.cells #[.int .i64 k, .int .i64 i] 28)).alloc (.cells #[.int .i64 kb, .int .i64 ib] 28)) hr.cap hr.len)
  have hab : ∀ wx, Below w.heap.size w wx → Calls Try.prog 10 #[(⟨f0, f1, f2, f3, f4, f5, f6⟩ : Md).val, (fewR r).val a c, .agg #[.int .i64 k, .int .i64 i], .string b] wx (GivesR wx (pickOf ⟨f0, f1, f2, f3, f4, f5, f6⟩ (fewR r) k i b)) := fun wx hb => pick_any _ _ a c k i b wx (hrf.below hb) hi0 hi1
  have HX0 := Lib.hid X0
  generalize pickOf ⟨f0, f1, f2, f3, f4, f5, f6⟩ (fewR r) k i b = o at *
  generalize fewR r = r2 at *
  have HB := Lib.hid hab
  clear X0 hr hrf hab hi0 hi1
  have C16 := Lib.hid c16
  clear c16
  obtain ⟨r1, t1, e1⟩ := o
  dsimp only at he hh ht1 c14
  subst he
  generalize putOf ⟨f0, f1, f2, f3, f4, f5, f6⟩ r1 kb ib = pu at *
  generalize farOf ⟨f0, f1, f2, f3, f4, f5, f6⟩ = fa at *
  obtain ⟨r3, t2, e2⟩ := pu
  have ub := HMM.out.b1
  have ub2 := HMM.out.b2
  have uc := HMM.out.t3
  have ud : t1 + t2 ≤ fa := HFA.out
  dsimp only at ub ub2 uc ud
  dsimp only at hf c14 cv ch hin2 hl2 hhb
  subst hf
  obtain ⟨d0, d1, ds, d3, d4⟩ := r3
  dsimp only at hhb
  subst hhb
  have CV := Lib.hid cv
  have CH := Lib.hid ch
  have CHR := Lib.hid chr
  have CF := Lib.hid cfar
  have HI2 := Lib.hid hin2
  clear cv ch chr cfar hin2
  obtain ⟨p0, fl, ss, pt, ha⟩ := r2
  obtain ⟨q0, q1, qs, q3, q4⟩ := r1
  have C14 := Lib.hid c14
  clear c14
  have ht1' : decide (t1 < f5) = false := decide_eq_false ht1
  clear ht1
  unfold Md.val Rb.val at *
  try unfold E0 at *
  dsimp only at *
  go_enter Try.func5, Try.ntmps5
  go_wp2_with fail
  refine V.out.mono ?_
  rintro e w1 ⟨rfl, hb1⟩
  have X1 := HX0.out.next hb1
  have X2 := X1.turn ⟨p0, fl, ss, pt, ha⟩ a c
  dsimp only at X2
  obtain ⟨b0, b1, b2, b3, b4⟩ := X1.r.at5
  have bf := fun j => X1.r.free j
  clear HX0 V hb1 X1
  dsimp only
  iterate 8 (first | go_skip | go_guarded | go_step | go_upon)
  obtain ⟨w2, hw2⟩ : ∃ w2, w2 = ((((w1.setCell ⟨w.heap.size + 1, 0, none⟩ (.int .i64 p0)).setCell ⟨w.heap.size + 1, 1, none⟩ (.bool fl)).setCell ⟨w.heap.size + 1, 2, none⟩ (.slice a ss.length c)).setCell ⟨w.heap.size + 1, 3, none⟩ (.string pt)).setCell ⟨w.heap.size + 1, 4, none⟩ (.string ha) := ⟨_, rfl⟩
  rw [← hw2] at X2 ⊢
  clear hw2 b0 b1 b2 b3 b4 bf
  obtain ⟨b0, b1, b2, b3, b4⟩ := X2.r.at5
  obtain ⟨m0, m1, m2, m3, m4, m5, m6, m7⟩ := X2.m
  have j0 := X2.e.g0
  have j1 := X2.e.g1
  have i0 := X2.e2.g0
  have i1 := X2.e2.g1
  dsimp only at b0 b1 b2 b3 b4
  have HX2 := Lib.hid X2
  have HB2 := HB.out _ X2.low
  clear X2 HB
  go_wp2_with fail
  refine HB2.mono ?_
  rintro e w3 ⟨a3, c3, rfl, hown3, hb3⟩
  have X3 := HX2.out.next hb3
  have X3' := X3.next (below_alloc (Below.refl _ _) (.cells #[.int .i64 q0, .bool q1, .slice a3 qs.length c3, .string q3, .string q4] 26))
  have HX3 := Lib.hid X3'
  have A3 := Blk.new w3 26 #[.int .i64 q0, .bool q1, .slice a3 qs.length c3, .string q3, .string q4]
  have O3 := hown3.alloc (.cells #[.int .i64 q0, .bool q1, .slice a3 qs.length c3, .string q3, .string q4] 26)
  have hs3 := C16.out (w3.alloc (.cells #[.int .i64 q0, .bool q1, .slice a3 qs.length c3, .string q3, .string q4] 26)) a3 c3 _ O3
  clear b0 b1 b2 b3 b4 m0 m1 m2 m3 m4 m5 m6 m7 j0 j1 i0 i1
  obtain ⟨b0, b1, b2, b3, b4⟩ := X3.r.at5
  obtain ⟨m0, m1, m2, m3, m4, m5, m6, m7⟩ := X3.m
  have j0 := X3.e.g0
  have j1 := X3.e.g1
  have i0 := X3.e2.g0
  have i1 := X3.e2.g1
  have hz3 := X3.e2.lt
  have k0 : w.heap.size < w3.heap.size := by omega
  have k1 : w.heap.size + 1 < w3.heap.size := by omega
  have k2 : w.heap.size + 1 + 1 < w3.heap.size := by omega
  have k3 : w.heap.size + 1 + 1 + 1 < w3.heap.size := by omega
  try dsimp only at b0 b1 b2 b3 b4
  try dsimp only [Rb.val]
  try unfold Rb.val at hs3
  try dsimp only at hs3
  clear X3 X3' HB2 HX2 hown3 hb3
  go_wp2_with fail
  refine hs3.out.mono ?_
  rintro e w4 ⟨rfl, hb4⟩
  have X4 := HX3.out.next hb4
  have A4 := A3.below hb4
  have O4 := ownsRow_below O3 hb4
  have hs4 := C14.out w4 a3 c3 _ O4
  have HX4 := Lib.hid X4
  clear b0 b1 b2 b3 b4 m0 m1 m2 m3 m4 m5 m6 m7 j0 j1 i0 i1
  obtain ⟨b0, b1, b2, b3, b4⟩ := X4.r.at5
  obtain ⟨m0, m1, m2, m3, m4, m5, m6, m7⟩ := X4.m
  obtain ⟨x0, x1, x2, x3, x4⟩ := A4.at5
  have i0 := X4.e2.g0
  have i1 := X4.e2.g1
  have hlb := hb4.size
  simp only [World.size_alloc] at hlb
  try dsimp only at b0 b1 b2 b3 b4
  try unfold Rb.val at hs4
  try dsimp only at hs4
  clear X4 HX3 hs3 hb4 A3 O3 C14 C16
  go_wp2_with fail
  refine hs4.out.mono ?_
  rintro e w5 ⟨a5, c5, rfl, hown5, hb5⟩
  have X5 := HX4.out.next hb5
  have X5' := X5.next (below_alloc (Below.refl _ _) (.cells #[.int .i64 d0, .bool d1, .slice a5 ds.length c5, .string d3, .string E0] 26))
  have HX5 := Lib.hid X5'
  have A5 := (A4.below hb5).alloc (.cells #[.int .i64 d0, .bool d1, .slice a5 ds.length c5, .string d3, .string E0] 26)
  have B5 := Blk.new w5 26 #[.int .i64 d0, .bool d1, .slice a5 ds.length c5, .string d3, .string E0]
  have O5 := hown5.alloc (.cells #[.int .i64 d0, .bool d1, .slice a5 ds.length c5, .string d3, .string E0] 26)
  try dsimp only at O5
  have hv5 := CV.out (w5.alloc (.cells #[.int .i64 d0, .bool d1, .slice a5 ds.length c5, .string d3, .string E0] 26)) a5 c5 _ O5
  clear b0 b1 b2 b3 b4 m0 m1 m2 m3 m4 m5 m6 m7 i0 i1 x0 x1 x2 x3 x4
  obtain ⟨b0, b1, b2, b3, b4⟩ := X5.r.at5
  obtain ⟨m0, m1, m2, m3, m4, m5, m6, m7⟩ := X5.m
  have i0 := X5.e2.g0
  have i1 := X5.e2.g1
  have hlb5 := hb5.size
  have l0 : w.heap.size < w5.heap.size := by omega
  have l1 : w.heap.size + 1 < w5.heap.size := by omega
  have l2 : w.heap.size + 1 + 1 < w5.heap.size := by omega
  have l3 : w.heap.size + 1 + 1 + 1 < w5.heap.size := by omega
  have l4 : w3.heap.size < w5.heap.size := by omega
  try dsimp only at b0 b1 b2 b3 b4
  try dsimp only [Rb.val]
  try unfold Rb.val at hv5
  try dsimp only at hv5
  try unfold E0 at hv5
  clear X5 X5' hs4 HX4 hown5 hb5 A4 O4 CV
  go_wp2_with fail
  refine hv5.out.mono ?_
  rintro e w6 ⟨rfl, hb6⟩
  have X6 := HX5.out.next hb6
  have A6 := A5.below hb6
  have B6 := B5.below hb6
  have O6 := ownsRow_below O5 hb6
  have HX6 := Lib.hid X6
  clear b0 b1 b2 b3 b4 m0 m1 m2 m3 m4 m5 m6 m7 i0 i1
  obtain ⟨b0, b1, b2, b3, b4⟩ := X6.r.at5
  obtain ⟨m0, m1, m2, m3, m4, m5, m6, m7⟩ := X6.m
  obtain ⟨x0, x1, x2, x3, x4⟩ := A6.at5
  obtain ⟨y0, y1, y2, y3, y4⟩ := B6.at5
  have i0 := X6.e2.g0
  have i1 := X6.e2.g1
  have v1 : decide (t1 + t2 > fa) = false := decide_eq_false (by omega)
  have v2 : decide (t1 + t2 < f5 + f6) = false := decide_eq_false (by omega)
  have hF6 := CF.out w6
  try unfold E0 at y4
  try dsimp only at b0 b1 b2 b3 b4
  clear X6 HX5 hv5 hb6 A5 B5 O5
  go_wp2_with fail
  refine hF6.out.mono ?_
  rintro e w7 ⟨rfl, hb7⟩
  have X7 := HX6.out.next hb7
  have A7 := A6.below hb7
  have B7 := B6.below hb7
  have O7 := ownsRow_below O6 hb7
  have HX7 := Lib.hid X7
  clear b0 b1 b2 b3 b4 m0 m1 m2 m3 m4 m5 m6 m7 i0 i1 x0 x1 x2 x3 x4 y0 y1 y2 y3 y4
  obtain ⟨b0, b1, b2, b3, b4⟩ := X7.r.at5
  obtain ⟨m0, m1, m2, m3, m4, m5, m6, m7⟩ := X7.m
  obtain ⟨x0, x1, x2, x3, x4⟩ := A7.at5
  obtain ⟨y0, y1, y2, y3, y4⟩ := B7.at5
  have i0 := X7.e2.g0
  have i1 := X7.e2.g1
  have hr7 := CHR.out w7 X7.low
  try unfold Rb.val at hr7
  try dsimp only at hr7
  try unfold E0 at y4
  try dsimp only at b0 b1 b2 b3 b4
  clear X7 HX6 hb7 A6 B6 O6 hF6
  go_wp2_with fail
  refine hr7.out.mono ?_
  rintro e w8 ⟨v8, rfl, hown8, hb8⟩
  obtain ⟨a8, c8, rfl, s8, d8, _, _⟩ := ownsStrs hown8
  have X8 := HX7.out.next hb8
  have A8 := A7.below hb8
  have B8 := B7.below hb8
  have O8 := ownsRow_below O7 hb8
  have hh8 := CH.out w8 a5 c5 (HI2.out w8 a5 c5 _ O8)
  clear b0 b1 b2 b3 b4 m0 m1 m2 m3 m4 m5 m6 m7 i0 i1 x0 x1 x2 x3 x4 y0 y1 y2 y3 y4
  obtain ⟨y0, y1, y2, y3, y4⟩ := B8.at5
  try unfold E0 at y4
  try unfold Rb.val at hh8
  try unfold E0 at hh8
  try dsimp only at hh8
  have HX8 := Lib.hid X8
  clear X8 HX7 hr7 hown8 hb8 A7 B7 O7 O8 CH CHR HI2 CF
  go_wp2_with fail
  refine hh8.out.mono ?_
  rintro e w9 ⟨v9, rfl, hown9, hb9⟩
  obtain ⟨a9, c9, rfl, s9, d9, _, _⟩ := ownsStrs hown9
  have s89 := s8.below hb9
  have X9 := HX8.out.next hb9
  have A9 := A8.below hb9
  clear y0 y1 y2 y3 y4
  have HA9 := Lib.hid A9
  have HX9 := Lib.hid X9
  have HS9 := Lib.hid s9
  have HS8 := Lib.hid s89
  clear X9 A9 s9 s89 s8 A8 B8 HX8 hown9 hb9 hh8
  generalize hW : allOf ⟨p0, fl, ss, pt, ha⟩ = was at *
  generalize hN : allOf ⟨d0, d1, ds, d3, ⟨#[]⟩⟩ = now at *
  have KW : Hid (∀ s ∈ was, s ≠ ⟨#[]⟩ → s ≠ q4 → cnt now s = 1) := Lib.hid (by rw [← hW, ← hN]; exact HMM.out.was)
  have KN : Hid (∀ s ∈ now, s ≠ ⟨#[]⟩ → s ≠ q4 → cnt was s = 1) := Lib.hid (by rw [← hW, ← hN]; exact HMM.out.now)
  have KL : Hid (cnt now q4 = if kb = 1 then 0 else 1) := Lib.hid (by rw [← hN]; exact HMM.out.last)
  clear HMM HFA hW hN
  go_wp2_with fail
  go_loopw [19] (fun i wr => ∃ k : Nat, i = .int .i64 k ∧ k ≤ was.length ∧ ∃ W9 : World, W9 = wr ∧ Below w9.heap.size w9 W9) (fun i _ => was.length - (intOf i).toNat)
  case atStart => exact ⟨0, rfl, by omega, _, rfl, Below.refl _ _⟩
  case round =>
    obtain ⟨k, rfl, hk, W9, rfl, hbr⟩ := hrel
    have HBR := Lib.hid hbr
    by_cases h : k < was.length
    · have s8 := HS8.out.below hbr
      have s9 := HS9.out.below hbr
      have A9 := HA9.out.below hbr
      obtain ⟨x8, rfl, hcell⟩ := s8.at h
      obtain ⟨x0, x1, x2, x3, x4⟩ := A9.at5
      have mem : was[k] ∈ was := List.getElem_mem h
      have KW1 := KW.out _ mem
      generalize was[k] = s at *
      have g1 : (0 : Int) ≤ (k : Int) := by omega
      have g2 : (k : Int) < (was.length : Int) := by omega
      clear mem x0 x1 x2 x3 A9 s8
      by_cases e1 : s = ⟨#[]⟩
      · have t1 : s.toList.isEmpty = true := by rw [e1, ByteArray.toList_eq]; rfl
        have t2 := eq_str e1
        clear e1 KW1
        go_wp2
        go_quiet (fail)
        go_wp2
        go_roundw
        case rel => exact ⟨k + 1, by go_num, by omega, _, rfl, below_drewN hbr _⟩
        case measure => simp [intOf]; omega
      · have t1 := ne_isEmpty e1
        by_cases e2 : s = q4
        · have t3 := eq_str e2
          clear e1 e2 KW1
          go_wp2
          go_quiet (fail)
          go_wp2
          go_roundw
          case rel => exact ⟨k + 1, by go_num, by omega, _, rfl, below_drewN hbr _⟩
          case measure => simp [intOf]; omega
        · have t3 := ne_str e2
          have s9' := s9
          have CC : Hid (∀ n, Calls Try.prog 19 #[.slice a9 now.length c9, .string s] (W9.drewN n) fun e w' => e = .returned (.int .i64 1) ∧ w' = W9.drewN n) := Lib.hid fun n => by
            have := count_any now a9 c9 s (W9.drewN n) (s9.below (below_drewN (Below.refl _ _) n)) d9 hl2
            rw [KW1 e1 e2] at this; exact this
          clear e1 e2 KW1
          go_wp2
          go_quiet ((go_at_call 19; exact Calls.quiet_of_same (CC.out _)))
          go_wp2
          go_roundw
          case rel => exact ⟨k + 1, by go_num, by omega, _, rfl, below_drewN hbr _⟩
          case measure => simp [intOf]; omega
    · have hu : ¬ ((k : Int) < (was.length : Int)) := by omega
      go_wp2
      go_loopw [20] (fun i wr => ∃ k : Nat, i = .int .i64 k ∧ k ≤ now.length ∧ ∃ W0 : World, W0 = wr ∧ Below w9.heap.size w9 W0) (fun i _ => now.length - (intOf i).toNat)
      case atStart => exact ⟨0, rfl, by omega, _, rfl, hbr⟩
      case round =>
        clear hbr HBR hu h hk
        obtain ⟨j, rfl, hj, W0, rfl, hb0⟩ := hrel
        by_cases h : j < now.length
        · have s8 := HS8.out.below hb0
          have s9 := HS9.out.below hb0
          have A9 := HA9.out.below hb0
          obtain ⟨x9, rfl, hcell⟩ := s9.at h
          obtain ⟨x0, x1, x2, x3, x4⟩ := A9.at5
          have mem : now[j] ∈ now := List.getElem_mem h
          have KN1 := KN.out _ mem
          generalize now[j] = s at *
          have g1 : (0 : Int) ≤ (j : Int) := by omega
          have g2 : (j : Int) < (now.length : Int) := by omega
          clear mem x0 x1 x2 x3 A9 s9
          by_cases e1 : s = ⟨#[]⟩
          · have t1 : s.toList.isEmpty = true := by rw [e1, ByteArray.toList_eq]; rfl
            have t2 := eq_str e1
            clear e1 KN1
            go_wp2
            go_quiet (fail)
            go_wp2
            go_roundw
            case rel => exact ⟨j + 1, by go_num, by omega, _, rfl, below_drewN hb0 _⟩
            case measure => simp [intOf]; omega
          · have t1 := ne_isEmpty e1
            by_cases e2 : s = q4
            · have t3 := eq_str e2
              clear e1 e2 KN1
              go_wp2
              go_quiet (fail)
              go_wp2
              go_roundw
              case rel => exact ⟨j + 1, by go_num, by omega, _, rfl, below_drewN hb0 _⟩
              case measure => simp [intOf]; omega
            · have t3 := ne_str e2
              have CC : Hid (∀ n, Calls Try.prog 19 #[.slice a8 was.length c8, .string s] (W0.drewN n) fun e w' => e = .returned (.int .i64 1) ∧ w' = W0.drewN n) := Lib.hid fun n => by
                have := count_any was a8 c8 s (W0.drewN n) (s8.below (below_drewN (Below.refl _ _) n)) d8 hl1
                rw [KN1 e1 e2] at this; exact this
              clear e1 e2 KN1
              go_wp2
              go_quiet ((go_at_call 19; exact Calls.quiet_of_same (CC.out _)))
              go_wp2
              go_roundw
              case rel => exact ⟨j + 1, by go_num, by omega, _, rfl, below_drewN hb0 _⟩
              case measure => simp [intOf]; omega
        · have hu : ¬ ((j : Int) < (now.length : Int)) := by omega
          have A9 := HA9.out.below hb0
          have s9 := HS9.out.below hb0
          have X0 := HX9.out.next hb0
          obtain ⟨x0, x1, x2, x3, x4⟩ := A9.at5
          have i0 := X0.e2.g0
          have LL := Lib.hid X0.low
          have CC := count_any now a9 c9 q4 W0 s9 d9 hl2
          rw [KL.out] at CC
          clear x0 x1 x2 x3 A9 s9 X0
          by_cases hk1 : kb = 1
          · rw [if_pos hk1] at CC
            subst hk1
            have HC := Lib.hid CC
            clear CC
            go_wp2_with fail
            refine HC.out.mono ?_
            rintro e w10 ⟨rfl, rfl⟩
            go_wp2_with fail
            refine (HA _).mono ?_
            rintro e w11 ⟨rfl, hb11⟩
            go_wp2
            go_ret
            exact ⟨rfl, Below.next LL.out hb11⟩
          · rw [if_neg hk1] at CC
            have hk2 : decide (kb = 1) = false := decide_eq_false hk1
            have hk3 : (kb == 1) = false := by simpa using hk1
            have HC := Lib.hid CC
            clear CC
            go_wp2_with fail
            refine HC.out.mono ?_
            rintro e w10 ⟨rfl, rfl⟩
            go_wp2_with fail
            refine (HA _).mono ?_
            rintro e w11 ⟨rfl, hb11⟩
            go_wp2
            go_ret
            exact ⟨rfl, Below.next LL.out hb11⟩
end Go.Proofs.Ytpnkaoigpefmiaa
