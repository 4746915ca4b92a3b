/- The law RobotPicks, walked; words for the laws' arguments. -/
import Derived.Test.YtpnkaoigpefmiaaR43
namespace Go.Proofs.Ytpnkaoigpefmiaa
open Go.RowKit
set_option linter.unusedVariables false
set_option linter.unusedSimpArgs false

/-- A robot as it came in, however long. -/
structure RobArg (w : World) (r : Rb) (a : Option Addr) (c : Nat) : Prop where
  strs : Strs w a r.slots
  cap : r.slots.length ≤ c
  nil : a = none → c = 0
  len : r.slots.length ≤ 9223372036854775807
  slots : ∀ s ∈ r.slots, s.size ≤ maxLen
  port : r.port.size ≤ maxLen
  hand : r.hand.size ≤ maxLen
  lo : -9223372036854775808 ≤ r.pos
  hi : r.pos ≤ 9223372036854775807
theorem items_mem {r : Rb} {x : It} (h : x ∈ items r) : x.2.2 ∈ r.slots ∨ x.2.2 = r.port ∨ x.2.2 = r.hand := by
  unfold items slotsTo at h
  rcases List.mem_append.1 h with h | h
  · rcases List.mem_append.1 h with h | h
    · obtain ⟨j, hj, rfl⟩ := List.mem_map.1 h
      have hj := List.mem_range.1 hj
      exact .inl (by simp [hj])
    · simp at h; subst h; exact .inr (.inl rfl)
  · simp at h; subst h; exact .inr (.inr rfl)
theorem RobArg.few {w : World} {r : Rb} {a : Option Addr} {c : Nat} (h : RobArg w r a c) : RobIn w (fewR r) a c := by
  obtain ⟨h1, h2, h3, h4, h5, h6, h7, h8, h9⟩ := h
  unfold fewR
  by_cases hl : r.slots.length > 70
  · rw [if_pos hl]
    refine ⟨?_, by simp; omega, h3, by simp; omega, fun x hx => ?_, h8, h9⟩
    · have := Vals.take h1 70
      unfold Strs
      rw [List.map_take]; exact this
    · rcases items_mem hx with h | h | h
      · exact h5 _ (List.mem_of_mem_take h)
      · rw [h]; exact h6
      · rw [h]; exact h7
  · rw [if_neg hl]
    refine ⟨h1, h2, h3, by omega, fun x hx => ?_, h8, h9⟩
    rcases items_mem hx with h | h | h
    · exact h5 _ h
    · rw [h]; exact h6
    · rw [h]; exact h7
theorem GivesR.zero_time {w : World} {o : Rb × Int × Int} {e : Ending} {w' : World} (h : GivesR w o e w') : True := trivial
/-- Three boxes, the robot's whole. -/
structure C3 (w : World) (f0 f1 f2 f3 f4 f5 f6 : Int) (r : Rb) (a : Option Addr) (c : Nat) (k i : Int) (wx : World) : Prop where
  m : MB w f0 f1 f2 f3 f4 f5 f6 wx
  r : Blk wx (w.heap.size + 1) 26 #[.int .i64 r.pos, .bool r.failed, .slice a r.slots.length c, .string r.port, .string r.hand]
  e : EB (w.heap.size + 2) k i wx
  low : Below w.heap.size w wx
theorem C3.next {w w1 w2 : World} {f0 f1 f2 f3 f4 f5 f6 : Int} {r : Rb} {a : Option Addr} {c : Nat} {k i : Int} (h : C3 w f0 f1 f2 f3 f4 f5 f6 r a c k i w1) (hb : Below w1.heap.size w1 w2) : C3 w f0 f1 f2 f3 f4 f5 f6 r a c k i w2 :=
  ⟨h.m.next hb, h.r.below hb, h.e.next hb, Below.next h.low hb⟩
theorem C3.start (w : World) (f0 f1 f2 f3 f4 f5 f6 : Int) (r : Rb) (a : Option Addr) (c : Nat) (k i : Int) : C3 w f0 f1 f2 f3 f4 f5 f6 r a c k i (((w.alloc (.cells #[.int .i64 f0, .int .i64 f1, .int .i64 f2, .int .i64 f3, .int .i64 f4, .int .i64 f5, .int .i64 f6] 23)).alloc (.cells #[.int .i64 r.pos, .bool r.failed, .slice a r.slots.length c, .string r.port, .string r.hand] 26)).alloc (.cells #[.int .i64 k, .int .i64 i] 28)) := by
  have X := B3.start w f0 f1 f2 f3 f4 f5 f6 r a c k i
  have R := (Blk.new (w.alloc (.cells #[.int .i64 f0, .int .i64 f1, .int .i64 f2, .int .i64 f3, .int .i64 f4, .int .i64 f5, .int .i64 f6] 23)) 26 #[.int .i64 r.pos, .bool r.failed, .slice a r.slots.length c, .string r.port, .string r.hand]).alloc (.cells #[.int .i64 k, .int .i64 i] 28)
  simp only [World.size_alloc] at R
  exact ⟨X.m, R, X.e, X.low⟩
/-- The robot's box is filled anew. -/
theorem C3.turn {w w1 : World} {f0 f1 f2 f3 f4 f5 f6 : Int} {r : Rb} {a : Option Addr} {c : Nat} {k i : Int} (h : C3 w f0 f1 f2 f3 f4 f5 f6 r a c k i w1) (r' : Rb) (a' : Option Addr) (c' : Nat) :
    C3 w f0 f1 f2 f3 f4 f5 f6 r' a' c' k i (((((w1.setCell ⟨w.heap.size + 1, 0, none⟩ (.int .i64 r'.pos)).setCell ⟨w.heap.size + 1, 1, none⟩ (.bool r'.failed)).setCell ⟨w.heap.size + 1, 2, none⟩ (.slice a' r'.slots.length c')).setCell ⟨w.heap.size + 1, 3, none⟩ (.string r'.port)).setCell ⟨w.heap.size + 1, 4, none⟩ (.string r'.hand)) := by
  obtain ⟨⟨lt, g0, g1, g2, g3, g4, g5, g6⟩, hr, ⟨et, e0, e1⟩, hl⟩ := h
  have C : ∀ (W : World) (j o q : Nat) (u v : Value), j ≠ w.heap.size + 1 → W.cell? ⟨j, o, none⟩ = some v → (W.setCell ⟨w.heap.size + 1, q, none⟩ u).cell? ⟨j, o, none⟩ = some v := fun W j o q u v hj hv => by
    rw [World.cell?_setCell_other _ _ _ _ (by intro e; injection e with e _ _; exact hj e.symm)]; exact hv
  have C5 : ∀ (j o : Nat) (v : Value), j ≠ w.heap.size + 1 → w1.cell? ⟨j, o, none⟩ = some v → (((((w1.setCell ⟨w.heap.size + 1, 0, none⟩ (.int .i64 r'.pos)).setCell ⟨w.heap.size + 1, 1, none⟩ (.bool r'.failed)).setCell ⟨w.heap.size + 1, 2, none⟩ (.slice a' r'.slots.length c')).setCell ⟨w.heap.size + 1, 3, none⟩ (.string r'.port)).setCell ⟨w.heap.size + 1, 4, none⟩ (.string r'.hand)).cell? ⟨j, o, none⟩ = some v := fun j o v hj hv =>
    C _ _ _ _ _ _ hj (C _ _ _ _ _ _ hj (C _ _ _ _ _ _ hj (C _ _ _ _ _ _ hj (C _ _ _ _ _ _ hj hv))))
  have hs : (((((w1.setCell ⟨w.heap.size + 1, 0, none⟩ (.int .i64 r'.pos)).setCell ⟨w.heap.size + 1, 1, none⟩ (.bool r'.failed)).setCell ⟨w.heap.size + 1, 2, none⟩ (.slice a' r'.slots.length c')).setCell ⟨w.heap.size + 1, 3, none⟩ (.string r'.port)).setCell ⟨w.heap.size + 1, 4, none⟩ (.string r'.hand)).heap.size = w1.heap.size := by simp [World.setCell]
  exact ⟨⟨by rw [hs]; exact lt, C5 _ _ _ (by omega) g0, C5 _ _ _ (by omega) g1, C5 _ _ _ (by omega) g2, C5 _ _ _ (by omega) g3, C5 _ _ _ (by omega) g4, C5 _ _ _ (by omega) g5, C5 _ _ _ (by omega) g6⟩,
    hr.five _ _ _ _ _, ⟨by rw [hs]; exact et, C5 _ _ _ (by omega) e0, C5 _ _ _ (by omega) e1⟩, below_five hl (by omega) _ _ _ _ _⟩
theorem pick_len (m : Md) (r : Rb) (k i : Int) (b : ByteArray) (h : r.slots.length ≤ 1000000) : (pickOf m r k i b).1.slots.length ≤ 1000000 := by
  have h0 : R0.slots.length ≤ 1000000 := by simp [R0]
  have h1 : (reachOf m r k i).1.slots.length ≤ 1000000 := by
    unfold reachOf
    split
    · exact h0
    · split
      · exact h0
      · split
        · exact h0
        · exact h
  unfold pickOf
  split
  · exact h0
  · split
    · exact h0
    · split
      · split
        · exact h0
        · exact h1
      · split
        · exact h0
        · rw [withOf_len]; exact h1
theorem put_len (m : Md) (r : Rb) (k i : Int) (h : r.slots.length ≤ 1000000) : (putOf m r k i).1.slots.length ≤ 1000000 := by
  have h0 : R0.slots.length ≤ 1000000 := by simp [R0]
  have h1 : (reachOf m r k i).1.slots.length ≤ 1000000 := by
    unfold reachOf
    split
    · exact h0
    · split
      · exact h0
      · split
        · exact h0
        · exact h
  unfold putOf
  split
  · exact h0
  · split
    · exact h0
    · split
      · exact h1
      · split
        · exact h0
        · rw [withOf_len]; exact h1
/-- The package works at all. -/
def Awake : Prop := ∀ w : World, Calls Try.prog 13 #[] w fun e w' => e = .returned (.bool true) ∧ Below w.heap.size w w'
set_option maxRecDepth 100000 in
set_option maxHeartbeats 1000000 in
theorem picks_law (HA : Awake) (m : Md) (r : Rb) (a : Option Addr) (c : Nat) (k i : Int) (b : ByteArray) (w : World) (hr : RobArg w r a c)
    (hi0 : -9223372036854775808 ≤ i) (hi1 : i ≤ 9223372036854775807) :
    Calls Try.prog 3 #[m.val, r.val a c, .agg #[.int .i64 k, .int .i64 i], .string b] w fun e w' => e = .returned (.bool true) ∧ Below w.heap.size w w' := by
  obtain ⟨f0, f1, f2, f3, f4, f5, f6⟩ := m
  have hrf := hr.few
  have X0 := C3.start w f0 f1 f2 f3 f4 f5 f6 r a c k i
  have V := Lib.hid (few_any r a c (((w.alloc (.cells #[.int .i64 f0, .int .i64 f1, .int .i64 f2, .int .i64 f3, .int .i64 f4, .int .i64 f5, .int .i64 f6] 23)).alloc (.cells #[.int .i64 r.pos, .bool r.failed, .slice a r.slots.length c, .string r.port, .string r.hand] 26)).alloc (.cells #[.int .i64 k, .int .i64 i] 28)) hr.cap hr.len)
  have hab : ∀ wx, Below w.heap.size w wx → Calls Try.prog 10 #[(⟨f0, f1, f2, f3, f4, f5, f6⟩ : Md).val, (fewR r).val a c, .agg #[.int .i64 k, .int .i64 i], .string b] wx (GivesR wx (pickOf ⟨f0, f1, f2, f3, f4, f5, f6⟩ (fewR r) k i b)) := fun wx hb => pick_any _ _ a c k i b wx (hrf.below hb) hi0 hi1
  have hac : ∀ wx, Below w.heap.size w wx → Calls Try.prog 11 #[(⟨f0, f1, f2, f3, f4, f5, f6⟩ : Md).val, (fewR r).val a c, .agg #[.int .i64 k, .int .i64 i], .string b] wx (GivesR wx (pickOf ⟨f0, f1, f2, f3, f4, f5, f6⟩ (fewR r) k i b)) := fun wx hb => rpick_any _ _ a c k i b wx (hrf.below hb) hi0 hi1
  have hol : (pickOf ⟨f0, f1, f2, f3, f4, f5, f6⟩ (fewR r) k i b).1.slots.length ≤ 1000000 := pick_len _ _ _ _ _ hrf.len
  have HX0 := Lib.hid X0
  generalize pickOf ⟨f0, f1, f2, f3, f4, f5, f6⟩ (fewR r) k i b = o at *
  generalize fewR r = r2 at *
  have HB := Lib.hid hab
  have HC := Lib.hid hac
  clear X0 hr hrf hab hac hi0 hi1
  obtain ⟨r1, t1, e1⟩ := o
  obtain ⟨p0, fl, ss, pt, ha⟩ := r2
  obtain ⟨q0, q1, qs, q3, q4⟩ := r1
  dsimp only at hol
  unfold Md.val Rb.val at *
  dsimp only at *
  go_enter Try.func3, Try.ntmps3
  go_wp2_with fail
  refine V.out.mono ?_
  rintro e w1 ⟨rfl, hb1⟩
  have X1 := HX0.out.next hb1
  have X2 := X1.turn ⟨p0, fl, ss, pt, ha⟩ a c
  dsimp only at X2
  obtain ⟨b0, b1, b2, b3, b4⟩ := X1.r.at5
  have bf := fun j => X1.r.free j
  clear HX0 V hb1 X1
  dsimp only
  iterate 8 (first | go_skip | go_guarded | go_step | go_upon)
  obtain ⟨w2, hw2⟩ : ∃ w2, w2 = ((((w1.setCell ⟨w.heap.size + 1, 0, none⟩ (.int .i64 p0)).setCell ⟨w.heap.size + 1, 1, none⟩ (.bool fl)).setCell ⟨w.heap.size + 1, 2, none⟩ (.slice a ss.length c)).setCell ⟨w.heap.size + 1, 3, none⟩ (.string pt)).setCell ⟨w.heap.size + 1, 4, none⟩ (.string ha) := ⟨_, rfl⟩
  rw [← hw2] at X2 ⊢
  clear hw2 b0 b1 b2 b3 b4 bf
  obtain ⟨b0, b1, b2, b3, b4⟩ := X2.r.at5
  obtain ⟨m0, m1, m2, m3, m4, m5, m6, m7⟩ := X2.m
  have j0 := X2.e.g0
  have j1 := X2.e.g1
  dsimp only at b0 b1 b2 b3 b4
  have HX2 := Lib.hid X2
  have HB2 := HB.out _ X2.low
  clear X2 HB
  go_wp2_with fail
  refine HB2.mono ?_
  rintro e w3 ⟨a3, c3, rfl, hown3, hb3⟩
  have X3 := HX2.out.next hb3
  have X3' := X3.next (below_alloc (Below.refl _ _) (.cells #[.int .i64 q0, .bool q1, .slice a3 qs.length c3, .string q3, .string q4] 26))
  have HC3 := HC.out _ X3'.low
  have HX3 := Lib.hid X3'
  have A3 := Blk.new w3 26 #[.int .i64 q0, .bool q1, .slice a3 qs.length c3, .string q3, .string q4]
  have O3 := ownsRow_mono hown3 HX2.out.low.size
  clear b0 b1 b2 b3 b4 m0 m1 m2 m3 m4 m5 m6 m7 j0 j1
  obtain ⟨b0, b1, b2, b3, b4⟩ := X3.r.at5
  obtain ⟨m0, m1, m2, m3, m4, m5, m6, m7⟩ := X3.m
  have j0 := X3.e.g0
  have j1 := X3.e.g1
  have hz3 := X3.e.lt
  have k1 : w.heap.size + 1 < w3.heap.size := by omega
  have k2 : w.heap.size + 1 + 1 < w3.heap.size := by omega
  dsimp only at b0 b1 b2 b3 b4 O3
  try dsimp only [Rb.val]
  clear X3 X3' HB2 HC HX2 hown3 hb3
  go_wp2_with fail
  refine HC3.mono ?_
  rintro e w4 ⟨a4, c4, rfl, hown4, hb4⟩
  have X4 := HX3.out.next hb4
  have A4 := A3.below hb4
  have O4 := ownsRow_below (O3.alloc (.cells #[.int .i64 q0, .bool q1, .slice a3 qs.length c3, .string q3, .string q4] 26)) hb4
  have P4 := ownsRow_mono hown4 HX3.out.low.size
  dsimp only at P4
  obtain ⟨a3', c3', e3, s3, d3, _, _⟩ := ownsStrs O4
  obtain ⟨a4', c4', e4, s4, d4, _, _⟩ := ownsStrs P4
  cases e3
  cases e4
  have hlb := hb4.size
  simp only [World.size_alloc] at hlb
  have HL := Lib.hid (below_alloc' X4.low (.cells #[.int .i64 q0, .bool q1, .slice a4 qs.length c4, .string q3, .string q4] 26))
  have HS := Lib.hid (same_yes ⟨q0, q1, qs, q3, q4⟩ a3 c3 a4 c4 (w4.alloc (.cells #[.int .i64 q0, .bool q1, .slice a4 qs.length c4, .string q3, .string q4] 26)) (s3.below (below_alloc (Below.refl _ _) _)) (s4.below (below_alloc (Below.refl _ _) _)) d3 d4 hol)
  clear b0 b1 b2 b3 b4 m0 m1 m2 m3 m4 m5 m6 m7 j0 j1
  obtain ⟨b0, b1, b2, b3, b4⟩ := A4.at5
  have l4 : w3.heap.size < w4.heap.size := by omega
  have v1 : (t1 == t1) = true := by simp
  have v2 : (e1 == e1) = true := by simp
  clear X4 A3 A4 O3 O4 P4 s3 s4 HC3 HX3 hown4 hb4
  try dsimp only [Rb.val]
  unfold Rb.val at HS
  dsimp only at HS
  go_wp2_with fail
  refine HS.out.mono ?_
  rintro e w5 ⟨rfl, hb5⟩
  go_wp2_with fail
  refine (HA _).mono ?_
  rintro e w6 ⟨rfl, hb6⟩
  go_wp2
  go_ret
  exact ⟨rfl, Below.next (Below.next HL.out hb5) hb6⟩
end Go.Proofs.Ytpnkaoigpefmiaa
