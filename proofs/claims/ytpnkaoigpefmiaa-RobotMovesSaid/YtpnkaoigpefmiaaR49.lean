/- The law RobotBack, walked. -/
import Derived.Test.YtpnkaoigpefmiaaR48
import Derived.Test.YtpnkaoigpefmiaaR46
namespace Go.Proofs.Ytpnkaoigpefmiaa
open Go.RowKit
set_option linter.unusedVariables false
set_option linter.unusedSimpArgs false

/-- Each barcode in a robot is no longer than any string is. -/
def Sz (r : Rb) : Prop := (∀ s ∈ r.slots, s.size ≤ maxLen) ∧ r.port.size ≤ maxLen ∧ r.hand.size ≤ maxLen
theorem sz_items {r : Rb} (h : Sz r) : ∀ x ∈ items r, x.2.2.size ≤ maxLen := fun x hx => by
  rcases items_mem hx with e | e | e
  · exact h.1 _ e
  · rw [e]; exact h.2.1
  · rw [e]; exact h.2.2
theorem items_sz {r : Rb} (h : ∀ x ∈ items r, x.2.2.size ≤ maxLen) : Sz r :=
  ⟨fun s hs => by
    obtain ⟨j, hj, rfl⟩ := List.getElem_of_mem hs
    exact h _ (List.mem_of_getElem? (items_slot r hj)), h _ (List.mem_of_getElem? (items_port r)), h _ (List.mem_of_getElem? (items_hand r))⟩
theorem e0_le : E0.size ≤ maxLen := by unfold maxLen; decide
theorem sz_R0 : Sz R0 := ⟨(fun s h => by cases h), e0_le, e0_le⟩
theorem sz_with {r : Rb} (h : Sz r) (k i : Int) {b : ByteArray} (hb : b.size ≤ maxLen) : Sz (withOf r k i b) := by
  unfold withOf
  split
  · exact ⟨fun s hs => by
      rcases List.mem_or_eq_of_mem_set hs with e | e
      · exact h.1 s e
      · rw [e]; exact hb, h.2.1, h.2.2⟩
  · split
    · exact ⟨h.1, hb, h.2.2⟩
    · exact h
theorem sz_at {r : Rb} (h : Sz r) (k i : Int) : (atOf r k i).size ≤ maxLen := by
  unfold atOf
  split
  · by_cases e : i.toNat < r.slots.length
    · simp only [List.getElem?_eq_getElem e, Option.getD_some]; exact h.1 _ (List.getElem_mem e)
    · simp only [List.getElem?_eq_none (Nat.le_of_not_lt e), Option.getD_none]; exact e0_le
  · exact h.2.1
theorem sz_reach {m : Md} {r : Rb} (h : Sz r) (k i : Int) : Sz (reachOf m r k i).1 := by
  unfold reachOf
  split
  · exact sz_R0
  · split
    · exact sz_R0
    · split
      · exact sz_R0
      · exact h
theorem sz_pick {m : Md} {r : Rb} (h : Sz r) (k i : Int) {b : ByteArray} (hb : b.size ≤ maxLen) : Sz (pickOf m r k i b).1 := by
  have h1 := sz_reach (m := m) h k i
  unfold pickOf
  split
  · exact sz_R0
  · split
    · exact sz_R0
    · split
      · split
        · exact sz_R0
        · exact ⟨h1.1, h1.2.1, hb⟩
      · split
        · exact sz_R0
        · exact sz_with (r := { (reachOf m r k i).1 with hand := atOf r k i }) ⟨h1.1, h1.2.1, sz_at h k i⟩ k i e0_le
theorem sz_put {m : Md} {r : Rb} (h : Sz r) (k i : Int) : Sz (putOf m r k i).1 := by
  have h1 := sz_reach (m := m) h k i
  unfold putOf
  split
  · exact sz_R0
  · split
    · exact sz_R0
    · split
      · exact ⟨h1.1, h1.2.1, e0_le⟩
      · split
        · exact sz_R0
        · exact sz_with (r := { (reachOf m r k i).1 with hand := E0 }) ⟨h1.1, h1.2.1, e0_le⟩ k i h.2.2
theorem in_own {W : World} {r : Rb} {a : Option Addr} {c base : Nat} (h : W.ownsRow base 9 1 (.slice a r.slots.length c) r.slots.length (r.slots.map Value.string)) (hl : r.slots.length ≤ 1000000) (hz : Sz r) (hp : -9223372036854775808 ≤ r.pos ∧ r.pos ≤ 9223372036854775807) : RobIn W r a c := by
  have Q : ∃ a' c', Value.slice a r.slots.length c = .slice a' r.slots.length c' ∧ Strs W a' r.slots ∧ r.slots.length ≤ c' ∧ (a' = none → c' = 0) ∧ r.slots.length = r.slots.length := ownsStrs h
  obtain ⟨a', c', e, h1, h2, h3, _⟩ := Q
  cases e
  exact ⟨h1, h2, h3, hl, sz_items hz, hp.1, hp.2⟩
theorem ownsRow_other' {W : World} {base B j n size : Nat} {e : TypeId} {v u : Value} {xs : List Value} (h : W.ownsRow base e size v n xs) (hB : ∀ g, v.ownBlock = some g → B ≠ g) : (W.setCell ⟨B, j, none⟩ u).ownsRow base e size v n xs := by
  refine ⟨h.1, ?_⟩
  rcases h.2 with h | ⟨g, cap, cur, h1, h2, h3, h4⟩
  · exact .inl h
  · exact .inr ⟨g, cap, cur, h1, h2, (Below.heap_setCell W ⟨B, j, none⟩ u g (by show g ≠ B; exact Ne.symm (hB g (by rw [h1]; rfl)))).trans h3, h4⟩
set_option maxRecDepth 100000 in
set_option maxHeartbeats 1000000 in
theorem back_err (HA : Awake) (m : Md) (r : Rb) (a : Option Addr) (c : Nat) (k i : Int) (w : World) (hr : RobArg w r a c)
    (hi0 : -9223372036854775808 ≤ i) (hi1 : i ≤ 9223372036854775807) (he : (pickOf m (fewR r) k i E0).2.2 ≠ 0) :
    Calls Try.prog 6 #[m.val, r.val a c, .agg #[.int .i64 k, .int .i64 i]] w fun e w' => e = .returned (.bool true) ∧ Below w.heap.size w w' := by
  obtain ⟨f0, f1, f2, f3, f4, f5, f6⟩ := m
  have hrf := hr.few
  have X0 := C3.start w f0 f1 f2 f3 f4 f5 f6 r a c k i
  have V := Lib.hid (few_any r a c (((w.alloc (.cells #[.int .i64 f0, .int .i64 f1, .int .i64 f2, .int .i64 f3, .int .i64 f4, .int .i64 f5, .int .i64 f6] 23)).alloc (.cells #[.int .i64 r.pos, .bool r.failed, .slice a r.slots.length c, .string r.port, .string r.hand] 26)).alloc (.cells #[.int .i64 k, .int .i64 i] 28)) hr.cap hr.len)
  have hab : ∀ wx, Below w.heap.size w wx → Calls Try.prog 10 #[(⟨f0, f1, f2, f3, f4, f5, f6⟩ : Md).val, (fewR r).val a c, .agg #[.int .i64 k, .int .i64 i], .string E0] wx (GivesR wx (pickOf ⟨f0, f1, f2, f3, f4, f5, f6⟩ (fewR r) k i E0)) := fun wx hb => pick_any _ _ a c k i E0 wx (hrf.below hb) hi0 hi1
  have HX0 := Lib.hid X0
  generalize pickOf ⟨f0, f1, f2, f3, f4, f5, f6⟩ (fewR r) k i E0 = o at *
  generalize fewR r = r2 at *
  have HB := Lib.hid hab
  clear X0 hr hrf hab hi0 hi1
  obtain ⟨r1, t1, e1⟩ := o
  obtain ⟨p0, fl, ss, pt, ha⟩ := r2
  obtain ⟨q0, q1, qs, q3, q4⟩ := r1
  have hq : (e1 != 0) = true := by rw [bne_iff_ne]; exact he
  clear he
  unfold Md.val Rb.val E0 at *
  dsimp only at *
  go_enter Try.func6, Try.ntmps6
  go_wp2_with fail
  refine V.out.mono ?_
  rintro e w1 ⟨rfl, hb1⟩
  have X1 := HX0.out.next hb1
  have X2 := X1.turn ⟨p0, fl, ss, pt, ha⟩ a c
  dsimp only at X2
  obtain ⟨b0, b1, b2, b3, b4⟩ := X1.r.at5
  have bf := fun j => X1.r.free j
  clear HX0 V hb1 X1
  dsimp only
  iterate 8 (first | go_skip | go_guarded | go_step | go_upon)
  obtain ⟨w2, hw2⟩ : ∃ w2, w2 = ((((w1.setCell ⟨w.heap.size + 1, 0, none⟩ (.int .i64 p0)).setCell ⟨w.heap.size + 1, 1, none⟩ (.bool fl)).setCell ⟨w.heap.size + 1, 2, none⟩ (.slice a ss.length c)).setCell ⟨w.heap.size + 1, 3, none⟩ (.string pt)).setCell ⟨w.heap.size + 1, 4, none⟩ (.string ha) := ⟨_, rfl⟩
  rw [← hw2] at X2 ⊢
  clear hw2 b0 b1 b2 b3 b4 bf
  obtain ⟨b0, b1, b2, b3, b4⟩ := X2.r.at5
  obtain ⟨m0, m1, m2, m3, m4, m5, m6, m7⟩ := X2.m
  have j0 := X2.e.g0
  have j1 := X2.e.g1
  dsimp only at b0 b1 b2 b3 b4
  have HX2 := Lib.hid X2
  have HB2 := HB.out _ X2.low
  clear X2 HB
  go_wp2_with fail
  refine HB2.mono ?_
  rintro e w3 ⟨a3, c3, rfl, hown3, hb3⟩
  have X3 := HX2.out.next hb3
  have HL := Lib.hid (below_alloc' X3.low (.cells #[.int .i64 q0, .bool q1, .slice a3 qs.length c3, .string q3, .string q4] 26))
  clear X3 HB2 HX2 hown3 hb3
  try dsimp only [Rb.val]
  go_wp2_with fail
  refine (HA _).mono ?_
  rintro e w6 ⟨rfl, hb6⟩
  go_wp2
  go_ret
  exact ⟨rfl, Below.next HL.out hb6⟩
set_option maxRecDepth 100000 in
set_option maxHeartbeats 1000000 in
theorem back_ok (HA : Awake) (m : Md) (r : Rb) (a : Option Addr) (c : Nat) (k i : Int) (w : World) (hr : RobArg w r a c)
    (hi0 : -9223372036854775808 ≤ i) (hi1 : i ≤ 9223372036854775807) (he : (pickOf m (fewR r) k i E0).2.2 = 0) :
    Calls Try.prog 6 #[m.val, r.val a c, .agg #[.int .i64 k, .int .i64 i]] w fun e w' => e = .returned (.bool true) ∧ Below w.heap.size w w' := by
  obtain ⟨hput, hpo, hpp⟩ := put_back he
  have hlen := pick_len m (fewR r) k i E0 hr.few.len
  have hsz := sz_pick (m := m) (items_sz hr.few.size) k i e0_le
  have hpi := posOf_int hpo
  have hl2 := hr.few.len
  have hP : ∀ wx, Below w.heap.size w wx → Hid (Calls Try.prog 20 #[m.val, (fewR r).val a c, .agg #[.int .i64 k, .int .i64 i]] wx fun e w' => e = .returned (.tuple #[.int .i64 (posOf m (fewR r) k i).1, .bool true]) ∧ Below wx.heap.size wx w') := fun wx hb => Lib.hid (by rw [← hpo]; exact position_any m (fewR r) a c k i wx (hr.few.below hb) hi0 hi1)
  have hS : ∀ (wx : World) (a3 : Option Addr) (c3 base : Nat), wx.ownsRow base 9 1 (.slice a3 (pickOf m (fewR r) k i E0).1.slots.length c3) (pickOf m (fewR r) k i E0).1.slots.length ((pickOf m (fewR r) k i E0).1.slots.map Value.string) → Hid (Calls Try.prog 14 #[m.val, (pickOf m (fewR r) k i E0).1.val a3 c3, .agg #[.int .i64 k, .int .i64 i]] wx (GivesR wx ({ fewR r with pos := (posOf m (fewR r) k i).1 }, m.put, 0))) := fun wx a3 c3 base h => Lib.hid (by
    rw [← hput]; exact put_any m _ a3 c3 k i wx (in_own h hlen hsz (by rw [hpp]; exact hpi)) hi0 hi1)
  have hR := hr.few
  obtain ⟨f0, f1, f2, f3, f4, f5, f6⟩ := m
  have hrf := hr.few
  have X0 := C3.start w f0 f1 f2 f3 f4 f5 f6 r a c k i
  have V := Lib.hid (few_any r a c (((w.alloc (.cells #[.int .i64 f0, .int .i64 f1, .int .i64 f2, .int .i64 f3, .int .i64 f4, .int .i64 f5, .int .i64 f6] 23)).alloc (.cells #[.int .i64 r.pos, .bool r.failed, .slice a r.slots.length c, .string r.port, .string r.hand] 26)).alloc (.cells #[.int .i64 k, .int .i64 i] 28)) hr.cap hr.len)
  have hab : ∀ wx, Below w.heap.size w wx → Calls Try.prog 10 #[(⟨f0, f1, f2, f3, f4, f5, f6⟩ : Md).val, (fewR r).val a c, .agg #[.int .i64 k, .int .i64 i], .string E0] wx (GivesR wx (pickOf ⟨f0, f1, f2, f3, f4, f5, f6⟩ (fewR r) k i E0)) := fun wx hb => pick_any _ _ a c k i E0 wx (hrf.below hb) hi0 hi1
  have HX0 := Lib.hid X0
  generalize pickOf ⟨f0, f1, f2, f3, f4, f5, f6⟩ (fewR r) k i E0 = o at *
  generalize fewR r = r2 at *
  have HB := Lib.hid hab
  clear X0 hr hrf hab hi0 hi1
  obtain ⟨r1, t1, e1⟩ := o
  dsimp only at he hpp hlen hS
  subst he
  generalize posOf ⟨f0, f1, f2, f3, f4, f5, f6⟩ r2 k i = po at *
  obtain ⟨p, ok⟩ := po
  obtain ⟨p0, fl, ss, pt, ha⟩ := r2
  obtain ⟨q0, q1, qs, q3, q4⟩ := r1
  dsimp only at hpp hP hS hl2
  subst hpp
  have hRR := Lib.hid hR
  have v1 : (q0 == q0) = true := by simp
  have v2 : (f6 == f6) = true := by simp
  clear hput hpo hlen hsz hpi hR
  unfold Md.val Rb.val E0 at *
  dsimp only at *
  go_enter Try.func6, Try.ntmps6
  go_wp2_with fail
  refine V.out.mono ?_
  rintro e w1 ⟨rfl, hb1⟩
  have X1 := HX0.out.next hb1
  have X2 := X1.turn ⟨p0, fl, ss, pt, ha⟩ a c
  dsimp only at X2
  obtain ⟨b0, b1, b2, b3, b4⟩ := X1.r.at5
  have bf := fun j => X1.r.free j
  clear HX0 V hb1 X1
  dsimp only
  iterate 8 (first | go_skip | go_guarded | go_step | go_upon)
  obtain ⟨w2, hw2⟩ : ∃ w2, w2 = ((((w1.setCell ⟨w.heap.size + 1, 0, none⟩ (.int .i64 p0)).setCell ⟨w.heap.size + 1, 1, none⟩ (.bool fl)).setCell ⟨w.heap.size + 1, 2, none⟩ (.slice a ss.length c)).setCell ⟨w.heap.size + 1, 3, none⟩ (.string pt)).setCell ⟨w.heap.size + 1, 4, none⟩ (.string ha) := ⟨_, rfl⟩
  rw [← hw2] at X2 ⊢
  clear hw2 b0 b1 b2 b3 b4 bf
  obtain ⟨b0, b1, b2, b3, b4⟩ := X2.r.at5
  obtain ⟨m0, m1, m2, m3, m4, m5, m6, m7⟩ := X2.m
  have j0 := X2.e.g0
  have j1 := X2.e.g1
  dsimp only at b0 b1 b2 b3 b4
  have HX2 := Lib.hid X2
  have HB2 := HB.out _ X2.low
  clear X2 HB
  go_wp2_with fail
  refine HB2.mono ?_
  rintro e w3 ⟨a3, c3, rfl, hown3, hb3⟩
  have X3 := HX2.out.next hb3
  have X3' := X3.next (below_alloc (Below.refl _ _) (.cells #[.int .i64 q0, .bool q1, .slice a3 qs.length c3, .string q3, .string q4] 26))
  have HX3 := Lib.hid X3'
  have A3 := Blk.new w3 26 #[.int .i64 q0, .bool q1, .slice a3 qs.length c3, .string q3, .string q4]
  have hs3 := hS (w3.alloc (.cells #[.int .i64 q0, .bool q1, .slice a3 qs.length c3, .string q3, .string q4] 26)) a3 c3 _ (hown3.alloc _)
  clear b0 b1 b2 b3 b4 m0 m1 m2 m3 m4 m5 m6 m7 j0 j1
  obtain ⟨b0, b1, b2, b3, b4⟩ := X3.r.at5
  obtain ⟨m0, m1, m2, m3, m4, m5, m6, m7⟩ := X3.m
  have j0 := X3.e.g0
  have j1 := X3.e.g1
  have hz3 := X3.e.lt
  have k1 : w.heap.size + 1 < w3.heap.size := by omega
  have k2 : w.heap.size + 1 + 1 < w3.heap.size := by omega
  try dsimp only at b0 b1 b2 b3 b4
  try dsimp only [Rb.val]
  unfold Rb.val at hs3
  try dsimp only at hs3
  clear X3 X3' HB2 HX2 hown3 hb3 hS
  go_wp2_with fail
  refine hs3.out.mono ?_
  rintro e w4 ⟨a4, c4, rfl, hown4, hb4⟩
  have X4 := HX3.out.next hb4
  have X4' := X4.next (below_alloc (Below.refl _ _) (.cells #[.int .i64 q0, .bool fl, .slice a4 ss.length c4, .string pt, .string ha] 26))
  have HX4 := Lib.hid X4'
  have A4 := (A3.below hb4).alloc (.cells #[.int .i64 q0, .bool fl, .slice a4 ss.length c4, .string pt, .string ha] 26)
  have B4 := Blk.new w4 26 #[.int .i64 q0, .bool fl, .slice a4 ss.length c4, .string pt, .string ha]
  have hlb := hb4.size
  simp only [World.size_alloc] at hlb
  have hp4 := hP _ X4'.low
  have hg4 := Lib.hid hown4.lt
  have O4 := hown4.alloc (.cells #[.int .i64 q0, .bool fl, .slice a4 ss.length c4, .string pt, .string ha] 26)
  try dsimp only at O4
  clear b0 b1 b2 b3 b4 m0 m1 m2 m3 m4 m5 m6 m7 j0 j1
  obtain ⟨b0, b1, b2, b3, b4⟩ := X4.r.at5
  obtain ⟨m0, m1, m2, m3, m4, m5, m6, m7⟩ := X4.m
  have j0 := X4.e.g0
  have j1 := X4.e.g1
  have n1 : w.heap.size < w4.heap.size := by omega
  have n2 : w.heap.size + 1 < w4.heap.size := by omega
  have n3 : w.heap.size + 1 + 1 < w4.heap.size := by omega
  try dsimp only at b0 b1 b2 b3 b4
  try dsimp only [Rb.val]
  clear X4 X4' HX3 hs3 hb4 A3 hown4 hP
  go_wp2_with fail
  refine hp4.out.mono ?_
  rintro e w5 ⟨rfl, hb5⟩
  have X5 := HX4.out.next hb5
  have A5 := A4.below hb5
  have B5 := B4.below hb5
  have O5 := ownsRow_below O4 hb5
  have hs5 := hb5.size
  simp only [World.size_alloc] at hs5
  have C5 := B5.set 0 (.int .i64 p0)
  simp only [List.setIfInBounds_toArray, List.set_cons_zero] at C5
  have Q5 := ownsRow_other' (B := w4.heap.size) (j := 0) (u := .int .i64 p0) O5 (fun g hg => by have := (hg4.out g hg).2; omega)
  have T5 : ∃ a' c', Value.slice a4 ss.length c4 = .slice a' ss.length c' ∧ Strs (w5.setCell ⟨w4.heap.size, 0, none⟩ (.int .i64 p0)) a' ss ∧ ss.length ≤ c' ∧ (a' = none → c' = 0) ∧ ss.length = ss.length := ownsStrs Q5
  obtain ⟨a4', c4', e4, s4, d4, _, _⟩ := T5
  cases e4
  have L5 := below_set X5.low (show w.heap.size ≤ w4.heap.size by omega) 0 (.int .i64 p0)
  have HLL := Lib.hid L5
  have HS := Lib.hid (same_yes ⟨p0, fl, ss, pt, ha⟩ a4 c4 a c (w5.setCell ⟨w4.heap.size, 0, none⟩ (.int .i64 p0)) s4 (hRR.out.strs.below L5) d4 hRR.out.cap hRR.out.len)
  clear b0 b1 b2 b3 b4 m0 m1 m2 m3 m4 m5 m6 m7 j0 j1 L5 s4 d4 Q5 O5 O4 B4 A4
  obtain ⟨b0, b1, b2, b3, b4⟩ := X5.r.at5
  obtain ⟨m0, m1, m2, m3, m4, m5, m6, m7⟩ := X5.m
  obtain ⟨x0, x1, x2, x3, x4⟩ := A5.at5
  obtain ⟨y0, y1, y2, y3, y4⟩ := B5.at5
  have yf := fun j => B5.free j
  try dsimp only at b0 b1 b2 b3 b4
  have u1 : w4.heap.size ≠ w.heap.size := by omega
  have u2 : w4.heap.size ≠ w.heap.size + 1 := by omega
  have u3 : w4.heap.size ≠ w3.heap.size := by omega
  have u4 : w.heap.size ≠ w4.heap.size := by omega
  have u5 : w.heap.size + 1 ≠ w4.heap.size := by omega
  have u6 : w3.heap.size ≠ w4.heap.size := by omega
  clear X5 A5 B5 HX4 hp4 hb5 C5
  unfold Rb.val at HS
  try dsimp only at HS
  go_wp2_with fail
  refine HS.out.mono ?_
  rintro e w6 ⟨rfl, hb6⟩
  go_wp2_with fail
  refine (HA _).mono ?_
  rintro e w7 ⟨rfl, hb7⟩
  go_wp2
  go_ret
  exact ⟨rfl, Below.next (Below.next HLL.out hb6) hb7⟩
theorem back_law (HA : Awake) (m : Md) (r : Rb) (a : Option Addr) (c : Nat) (k i : Int) (w : World) (hr : RobArg w r a c)
    (hi0 : -9223372036854775808 ≤ i) (hi1 : i ≤ 9223372036854775807) :
    Calls Try.prog 6 #[m.val, r.val a c, .agg #[.int .i64 k, .int .i64 i]] w fun e w' => e = .returned (.bool true) ∧ Below w.heap.size w w' := by
  by_cases he : (pickOf m (fewR r) k i E0).2.2 = 0
  · exact back_ok HA m r a c k i w hr hi0 hi1 he
  · exact back_err HA m r a c k i w hr hi0 hi1 he
end Go.Proofs.Ytpnkaoigpefmiaa
