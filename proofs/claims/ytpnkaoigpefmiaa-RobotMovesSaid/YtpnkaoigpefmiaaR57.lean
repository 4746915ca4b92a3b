/- The law RobotMoves: Put fails. -/
import Derived.Test.YtpnkaoigpefmiaaR56
namespace Go.Proofs.Ytpnkaoigpefmiaa
open Go.RowKit
set_option linter.unusedVariables false
set_option linter.unusedSimpArgs false

set_option maxRecDepth 100000 in
set_option maxHeartbeats 1000000 in
theorem moves_err2 (HA : Awake) (m : Md) (r : Rb) (a : Option Addr) (c : Nat) (k i kb ib : Int) (b : ByteArray) (w : World) (hr : RobArg w r a c) (hbz : b.size ≤ maxLen)
    (hi0 : -9223372036854775808 ≤ i) (hi1 : i ≤ 9223372036854775807) (hib0 : -9223372036854775808 ≤ ib) (hib1 : ib ≤ 9223372036854775807) (he : (pickOf m (fewR r) k i b).2.2 = 0) (hf : (putOf m (pickOf m (fewR r) k i b).1 kb ib).2.2 ≠ 0) :
    Calls Try.prog 5 #[m.val, r.val a c, .agg #[.int .i64 k, .int .i64 i], .agg #[.int .i64 kb, .int .i64 ib], .string b] w fun e w' => e = .returned (.bool true) ∧ Below w.heap.size w w' := by
  have P := picked he
  have va := picked_valid P
  have hh := ne_isEmpty P.hand
  have ht := travOf_in m (fewR r).pos (posOf m (fewR r) k i).1
  have htm := P.time
  have hmk : 0 ≤ m.pick ∧ m.pick ≤ 1000000 := P.valid.mok.2.2.2.2.2.1
  have ht1 : ¬ (pickOf m (fewR r) k i b).2.1 < m.pick := by omega
  have hlen := pick_len m (fewR r) k i b hr.few.len
  have hsz := sz_pick (m := m) (items_sz hr.few.size) k i hbz
  have hpi : -9223372036854775808 ≤ (pickOf m (fewR r) k i b).1.pos ∧ (pickOf m (fewR r) k i b).1.pos ≤ 9223372036854775807 := by rw [P.at_]; exact posOf_int P.pos
  have c16 : ∀ (wx : World) (a3 : Option Addr) (c3 base : Nat), wx.ownsRow base 9 1 (.slice a3 (pickOf m (fewR r) k i b).1.slots.length c3) (pickOf m (fewR r) k i b).1.slots.length ((pickOf m (fewR r) k i b).1.slots.map Value.string) → Hid (Calls Try.prog 16 #[m.val, (pickOf m (fewR r) k i b).1.val a3 c3] wx fun e w' => e = .returned (.bool true) ∧ Below wx.heap.size wx w') := fun wx a3 c3 base h => Lib.hid (by
    have := valid_any m _ a3 c3 wx (in_own h hlen hsz hpi)
    rw [decide_eq_true va] at this; exact this)
  have c14 : ∀ (wx : World) (a3 : Option Addr) (c3 base : Nat), wx.ownsRow base 9 1 (.slice a3 (pickOf m (fewR r) k i b).1.slots.length c3) (pickOf m (fewR r) k i b).1.slots.length ((pickOf m (fewR r) k i b).1.slots.map Value.string) → Hid (Calls Try.prog 14 #[m.val, (pickOf m (fewR r) k i b).1.val a3 c3, .agg #[.int .i64 kb, .int .i64 ib]] wx (GivesR wx (putOf m (pickOf m (fewR r) k i b).1 kb ib))) := fun wx a3 c3 base h => Lib.hid (put_any m _ a3 c3 kb ib wx (in_own h hlen hsz hpi) hib0 hib1)
  have hpf := put_fail hf
  clear P va ht htm hmk hlen hsz hpi hib0 hib1
  obtain ⟨f0, f1, f2, f3, f4, f5, f6⟩ := m
  have hrf := hr.few
  have X0 := D4.start w f0 f1 f2 f3 f4 f5 f6 r a c k i kb ib
  have V := Lib.hid (few_any r a c ((((w.alloc (.cells #[.int .i64 f0, .int .i64 f1, .int .i64 f2, .int .i64 f3, .int .i64 f4, .int .i64 f5, .int .i64 f6] 23)).alloc (.cells #[.int .i64 r.pos, .bool r.failed, .slice a r.slots.length c, .string r.port, .string r.hand] 26)).alloc (.cells #[.int .i64 k, .int .i64 i] 28)).alloc (.cells #[.int .i64 kb, .int .i64 ib] 28)) hr.cap hr.len)
  have hab : ∀ wx, Below w.heap.size w wx → Calls Try.prog 10 #[(⟨f0, f1, f2, f3, f4, f5, f6⟩ : Md).val, (fewR r).val a c, .agg #[.int .i64 k, .int .i64 i], .string b] wx (GivesR wx (pickOf ⟨f0, f1, f2, f3, f4, f5, f6⟩ (fewR r) k i b)) := fun wx hb => pick_any _ _ a c k i b wx (hrf.below hb) hi0 hi1
  have HX0 := Lib.hid X0
  generalize pickOf ⟨f0, f1, f2, f3, f4, f5, f6⟩ (fewR r) k i b = o at *
  generalize fewR r = r2 at *
  have HB := Lib.hid hab
  clear X0 hr hrf hab hi0 hi1
  have C16 := Lib.hid c16
  clear c16
  obtain ⟨r1, t1, e1⟩ := o
  dsimp only at he hh ht1 c14
  subst he
  generalize hpu : putOf ⟨f0, f1, f2, f3, f4, f5, f6⟩ r1 kb ib = pu at *
  rw [hpf] at c14
  have hq : (pu.2.2 != 0) = true := by rw [bne_iff_ne]; exact hf
  generalize pu.2.2 = e2 at *
  clear hpu hpf hf
  obtain ⟨p0, fl, ss, pt, ha⟩ := r2
  obtain ⟨q0, q1, qs, q3, q4⟩ := r1
  have C14 := Lib.hid c14
  clear c14
  have ht1' : decide (t1 < f5) = false := decide_eq_false ht1
  clear ht1
  unfold Md.val Rb.val at *
  try unfold E0 at *
  dsimp only at *
  go_enter Try.func5, Try.ntmps5
  go_wp2_with fail
  refine V.out.mono ?_
  rintro e w1 ⟨rfl, hb1⟩
  have X1 := HX0.out.next hb1
  have X2 := X1.turn ⟨p0, fl, ss, pt, ha⟩ a c
  dsimp only at X2
  obtain ⟨b0, b1, b2, b3, b4⟩ := X1.r.at5
  have bf := fun j => X1.r.free j
  clear HX0 V hb1 X1
  dsimp only
  iterate 8 (first | go_skip | go_guarded | go_step | go_upon)
  obtain ⟨w2, hw2⟩ : ∃ w2, w2 = ((((w1.setCell ⟨w.heap.size + 1, 0, none⟩ (.int .i64 p0)).setCell ⟨w.heap.size + 1, 1, none⟩ (.bool fl)).setCell ⟨w.heap.size + 1, 2, none⟩ (.slice a ss.length c)).setCell ⟨w.heap.size + 1, 3, none⟩ (.string pt)).setCell ⟨w.heap.size + 1, 4, none⟩ (.string ha) := ⟨_, rfl⟩
  rw [← hw2] at X2 ⊢
  clear hw2 b0 b1 b2 b3 b4 bf
  obtain ⟨b0, b1, b2, b3, b4⟩ := X2.r.at5
  obtain ⟨m0, m1, m2, m3, m4, m5, m6, m7⟩ := X2.m
  have j0 := X2.e.g0
  have j1 := X2.e.g1
  have i0 := X2.e2.g0
  have i1 := X2.e2.g1
  dsimp only at b0 b1 b2 b3 b4
  have HX2 := Lib.hid X2
  have HB2 := HB.out _ X2.low
  clear X2 HB
  go_wp2_with fail
  refine HB2.mono ?_
  rintro e w3 ⟨a3, c3, rfl, hown3, hb3⟩
  have X3 := HX2.out.next hb3
  have X3' := X3.next (below_alloc (Below.refl _ _) (.cells #[.int .i64 q0, .bool q1, .slice a3 qs.length c3, .string q3, .string q4] 26))
  have HX3 := Lib.hid X3'
  have A3 := Blk.new w3 26 #[.int .i64 q0, .bool q1, .slice a3 qs.length c3, .string q3, .string q4]
  have O3 := hown3.alloc (.cells #[.int .i64 q0, .bool q1, .slice a3 qs.length c3, .string q3, .string q4] 26)
  have hs3 := C16.out (w3.alloc (.cells #[.int .i64 q0, .bool q1, .slice a3 qs.length c3, .string q3, .string q4] 26)) a3 c3 _ O3
  clear b0 b1 b2 b3 b4 m0 m1 m2 m3 m4 m5 m6 m7 j0 j1 i0 i1
  obtain ⟨b0, b1, b2, b3, b4⟩ := X3.r.at5
  obtain ⟨m0, m1, m2, m3, m4, m5, m6, m7⟩ := X3.m
  have j0 := X3.e.g0
  have j1 := X3.e.g1
  have i0 := X3.e2.g0
  have i1 := X3.e2.g1
  have hz3 := X3.e2.lt
  have k0 : w.heap.size < w3.heap.size := by omega
  have k1 : w.heap.size + 1 < w3.heap.size := by omega
  have k2 : w.heap.size + 1 + 1 < w3.heap.size := by omega
  have k3 : w.heap.size + 1 + 1 + 1 < w3.heap.size := by omega
  try dsimp only at b0 b1 b2 b3 b4
  try dsimp only [Rb.val]
  try unfold Rb.val at hs3
  try dsimp only at hs3
  clear X3 X3' HB2 HX2 hown3 hb3
  go_wp2_with fail
  refine hs3.out.mono ?_
  rintro e w4 ⟨rfl, hb4⟩
  have X4 := HX3.out.next hb4
  have A4 := A3.below hb4
  have O4 := ownsRow_below O3 hb4
  have hs4 := C14.out w4 a3 c3 _ O4
  have HX4 := Lib.hid X4
  clear b0 b1 b2 b3 b4 m0 m1 m2 m3 m4 m5 m6 m7 j0 j1 i0 i1
  obtain ⟨b0, b1, b2, b3, b4⟩ := X4.r.at5
  obtain ⟨m0, m1, m2, m3, m4, m5, m6, m7⟩ := X4.m
  obtain ⟨x0, x1, x2, x3, x4⟩ := A4.at5
  have i0 := X4.e2.g0
  have i1 := X4.e2.g1
  have hlb := hb4.size
  simp only [World.size_alloc] at hlb
  try dsimp only at b0 b1 b2 b3 b4
  try unfold Rb.val at hs4
  try dsimp only at hs4
  clear X4 HX3 hs3 hb4 A3 O3 C14 C16
  go_wp2_with fail
  refine hs4.out.mono ?_
  rintro e w5 ⟨a5, c5, rfl, hown5, hb5⟩
  have X5 := HX4.out.next hb5
  have HL := Lib.hid (below_alloc' X5.low (.cells #[.int .i64 0, .bool false, .slice a5 0 c5, .string E0, .string E0] 26))
  clear X5 hs4 HX4 hown5 hb5 A4 O4
  unfold E0 at HL
  dsimp only [R0, Rb.val, List.length_nil, E0]
  go_wp2_with fail
  refine (HA _).mono ?_
  rintro e w6 ⟨rfl, hb6⟩
  go_wp2
  go_ret
  exact ⟨rfl, Below.next HL.out hb6⟩
end Go.Proofs.Ytpnkaoigpefmiaa
