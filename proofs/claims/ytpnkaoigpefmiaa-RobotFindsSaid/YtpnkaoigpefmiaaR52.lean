/- The law RobotFinds, walked. -/
import Derived.Test.YtpnkaoigpefmiaaR51
namespace Go.Proofs.Ytpnkaoigpefmiaa
open Go.RowKit
set_option linter.unusedVariables false
set_option linter.unusedSimpArgs false

set_option maxRecDepth 100000 in
set_option maxHeartbeats 400000 in
theorem finds_nob_none (HA : Awake) (r : Rb) (a : Option Addr) (c : Nat) (b : ByteArray) (w : World) (hr : RobArg w r a c) (hfo : findOf (fewR r) b = (0, 0, false)) (hb : b = E0) (heo : emptyOf (fewR r).slots = (0, false)) (hez : cnt (fewR r).slots E0 = 0) :
    Calls Try.prog 8 #[r.val a c, .string b] w fun e w' => e = .returned (.bool true) ∧ Below w.heap.size w w' := by
  have hrf := hr.few
  have V := Lib.hid (few_any r a c (w.alloc (.cells #[.int .i64 r.pos, .bool r.failed, .slice a r.slots.length c, .string r.port, .string r.hand] 26)) hr.cap hr.len)
  have c22 : ∀ wx, Below w.heap.size w wx → Hid (Calls Try.prog 22 #[(fewR r).val a c, .string b] wx fun e w' => e = .returned (.tuple #[.agg #[.int .i64 (findOf (fewR r) b).1, .int .i64 (findOf (fewR r) b).2.1], .bool (findOf (fewR r) b).2.2]) ∧ Below wx.heap.size wx w') := fun wx hb => Lib.hid (find_any _ a c b wx (hrf.strs.below hb) hrf.cap hrf.len)
  have c24 : ∀ wx, Below w.heap.size w wx → Hid (Calls Try.prog 24 #[(fewR r).val a c] wx fun e w' => e = .returned (.tuple #[.int .i64 (emptyOf (fewR r).slots).1, .bool (emptyOf (fewR r).slots).2]) ∧ Below wx.heap.size wx w') := fun wx hb => Lib.hid (empty_any _ a c wx (hrf.strs.below hb) hrf.cap hrf.len)
  have c18 : ∀ wx, Below w.heap.size w wx → Hid (Calls Try.prog 18 #[(fewR r).val a c] wx fun e w' => ∃ v, e = .returned v ∧ w'.ownsRow wx.heap.size 9 1 v (allOf (fewR r)).length ((allOf (fewR r)).map Value.string) ∧ Below wx.heap.size wx w') := fun wx hb => Lib.hid (held_any _ a c wx (hrf.strs.below hb) hrf.cap hrf.nil hrf.len)
  have hal : (allOf (fewR r)).length ≤ 1000000 := by
    have : (fewR r).slots.length ≤ 70 := by
      unfold fewR
      split
      · simp; omega
      · omega
    simp [allOf]; omega
  have R0 := Blk.new w 26 #[.int .i64 r.pos, .bool r.failed, .slice a r.slots.length c, .string r.port, .string r.hand]
  have L0 := below_alloc (Below.refl _ w) (.cells #[.int .i64 r.pos, .bool r.failed, .slice a r.slots.length c, .string r.port, .string r.hand] 26)
  have HR0 := Lib.hid R0
  have HL0 := Lib.hid L0
  obtain ⟨i0, hi, _, _, _⟩ := info_parts info9
  subst hb
  rw [hfo] at c22
  rw [heo] at c24
  generalize hal0 : allOf (fewR r) = al at *
  generalize fewR r = r2 at *
  have HIN := Lib.hid hrf
  have C22 := Lib.hid c22
  have C24 := Lib.hid c24
  have C18 := Lib.hid c18
  clear R0 L0 hr hrf c22 c24 c18 hal0
  obtain ⟨p0, fl, ss, pt, ha⟩ := r2
  unfold Rb.val E0 at *
  dsimp only at *
  go_enter Try.func8, Try.ntmps8
  go_wp2_with fail
  refine V.out.mono ?_
  rintro e w1 ⟨rfl, hb1⟩
  have R1 := HR0.out.below hb1
  have L1 := Below.next HL0.out hb1
  obtain ⟨b0, b1, b2, b3, b4⟩ := R1.at5
  have bf := fun j => R1.free j
  have R2 := R1.five (.int .i64 p0) (.bool fl) (.slice a ss.length c) (.string pt) (.string ha)
  have L2 := below_five L1 (Nat.le_refl _) (.int .i64 p0) (.bool fl) (.slice a ss.length c) (.string pt) (.string ha)
  clear HR0 HL0 V hb1 R1 L1
  dsimp only
  iterate 8 (first | go_skip | go_guarded | go_step | go_upon)
  obtain ⟨w2, hw2⟩ : ∃ w2, w2 = ((((w1.setCell ⟨w.heap.size, 0, none⟩ (.int .i64 p0)).setCell ⟨w.heap.size, 1, none⟩ (.bool fl)).setCell ⟨w.heap.size, 2, none⟩ (.slice a ss.length c)).setCell ⟨w.heap.size, 3, none⟩ (.string pt)).setCell ⟨w.heap.size, 4, none⟩ (.string ha) := ⟨_, rfl⟩
  rw [← hw2] at R2 L2 ⊢
  clear hw2 b0 b1 b2 b3 b4 bf
  obtain ⟨b0, b1, b2, b3, b4⟩ := R2.at5
  go_wp2_with fail
  refine (C22.out _ L2).out.mono ?_
  rintro e w3 ⟨rfl, hb3⟩
  have R3 := R2.below hb3
  have L3 := Below.next L2 hb3
  have z3 := R3.lt
  have R3' := R3.alloc (.cells #[.int .i64 0, .int .i64 0] 28)
  have E3 := Blk.new w3 28 #[.int .i64 0, .int .i64 0]
  have L3' := below_alloc' L3 (.cells #[.int .i64 0, .int .i64 0] 28)
  clear b0 b1 b2 b3 b4 R2 L2 hb3 C22
  obtain ⟨b0, b1, b2, b3, b4⟩ := R3.at5
  have x0 : (w3.alloc (.cells #[.int .i64 0, .int .i64 0] 28)).cell? ⟨w3.heap.size, 0, none⟩ = some (.int .i64 0) := E3.cell 0
  have HR4 := Lib.hid R3'
  have HL4 := Lib.hid L3'
  obtain ⟨w4, hw4⟩ : ∃ w4, w4 = w3.alloc (.cells #[.int .i64 0, .int .i64 0] 28) := ⟨_, rfl⟩
  rw [← hw4] at HR4 HL4
  clear R3 R3' E3 L3 L3' C18 x0
  go_wp2_with fail
  rw [← hw4]
  clear hw4
  refine (C24.out _ HL4.out).out.mono ?_
  rintro e w6 ⟨rfl, hb6⟩
  have R6 := HR4.out.below hb6
  have L6 := Below.next HL4.out hb6
  have t6 := HIN.out.strs.below L6
  clear b0 b1 b2 b3 b4 HR4 C24 hb6
  obtain ⟨b0, b1, b2, b3, b4⟩ := R6.at5
  have HL6 := Lib.hid L6
  have C19' := Lib.hid (count_any ss a c ⟨#[]⟩ w6 t6 HIN.out.cap HIN.out.len)
  rw [hez] at C19'
  clear R6 L6 t6 HIN
  go_wp2_with fail
  refine C19'.out.mono ?_
  rintro e w7 ⟨rfl, rfl⟩
  go_wp2_with fail
  refine (HA _).mono ?_
  rintro e w8 ⟨rfl, hb8⟩
  go_wp2
  go_ret
  exact ⟨rfl, Below.next HL6.out hb8⟩
set_option maxRecDepth 100000 in
set_option maxHeartbeats 400000 in
theorem finds_nob_some (HA : Awake) (r : Rb) (a : Option Addr) (c : Nat) (b : ByteArray) (w : World) (hr : RobArg w r a c) (hfo : findOf (fewR r) b = (0, 0, false)) (hb : b = E0) (k : Nat) (heo : emptyOf (fewR r).slots = (k, true)) (hk : k < (fewR r).slots.length) (hke : (fewR r).slots[k] = E0) (hez : cnt ((fewR r).slots.take k) E0 = 0) :
    Calls Try.prog 8 #[r.val a c, .string b] w fun e w' => e = .returned (.bool true) ∧ Below w.heap.size w w' := by
  have hrf := hr.few
  have V := Lib.hid (few_any r a c (w.alloc (.cells #[.int .i64 r.pos, .bool r.failed, .slice a r.slots.length c, .string r.port, .string r.hand] 26)) hr.cap hr.len)
  have c22 : ∀ wx, Below w.heap.size w wx → Hid (Calls Try.prog 22 #[(fewR r).val a c, .string b] wx fun e w' => e = .returned (.tuple #[.agg #[.int .i64 (findOf (fewR r) b).1, .int .i64 (findOf (fewR r) b).2.1], .bool (findOf (fewR r) b).2.2]) ∧ Below wx.heap.size wx w') := fun wx hb => Lib.hid (find_any _ a c b wx (hrf.strs.below hb) hrf.cap hrf.len)
  have c24 : ∀ wx, Below w.heap.size w wx → Hid (Calls Try.prog 24 #[(fewR r).val a c] wx fun e w' => e = .returned (.tuple #[.int .i64 (emptyOf (fewR r).slots).1, .bool (emptyOf (fewR r).slots).2]) ∧ Below wx.heap.size wx w') := fun wx hb => Lib.hid (empty_any _ a c wx (hrf.strs.below hb) hrf.cap hrf.len)
  have c18 : ∀ wx, Below w.heap.size w wx → Hid (Calls Try.prog 18 #[(fewR r).val a c] wx fun e w' => ∃ v, e = .returned v ∧ w'.ownsRow wx.heap.size 9 1 v (allOf (fewR r)).length ((allOf (fewR r)).map Value.string) ∧ Below wx.heap.size wx w') := fun wx hb => Lib.hid (held_any _ a c wx (hrf.strs.below hb) hrf.cap hrf.nil hrf.len)
  have hal : (allOf (fewR r)).length ≤ 1000000 := by
    have : (fewR r).slots.length ≤ 70 := by
      unfold fewR
      split
      · simp; omega
      · omega
    simp [allOf]; omega
  have R0 := Blk.new w 26 #[.int .i64 r.pos, .bool r.failed, .slice a r.slots.length c, .string r.port, .string r.hand]
  have L0 := below_alloc (Below.refl _ w) (.cells #[.int .i64 r.pos, .bool r.failed, .slice a r.slots.length c, .string r.port, .string r.hand] 26)
  have HR0 := Lib.hid R0
  have HL0 := Lib.hid L0
  obtain ⟨i0, hi, _, _, _⟩ := info_parts info9
  subst hb
  rw [hfo] at c22
  rw [heo] at c24
  generalize hal0 : allOf (fewR r) = al at *
  generalize fewR r = r2 at *
  have HIN := Lib.hid hrf
  have C22 := Lib.hid c22
  have C24 := Lib.hid c24
  have C18 := Lib.hid c18
  clear R0 L0 hr hrf c22 c24 c18 hal0
  obtain ⟨p0, fl, ss, pt, ha⟩ := r2
  unfold Rb.val E0 at *
  dsimp only at *
  go_enter Try.func8, Try.ntmps8
  go_wp2_with fail
  refine V.out.mono ?_
  rintro e w1 ⟨rfl, hb1⟩
  have R1 := HR0.out.below hb1
  have L1 := Below.next HL0.out hb1
  obtain ⟨b0, b1, b2, b3, b4⟩ := R1.at5
  have bf := fun j => R1.free j
  have R2 := R1.five (.int .i64 p0) (.bool fl) (.slice a ss.length c) (.string pt) (.string ha)
  have L2 := below_five L1 (Nat.le_refl _) (.int .i64 p0) (.bool fl) (.slice a ss.length c) (.string pt) (.string ha)
  clear HR0 HL0 V hb1 R1 L1
  dsimp only
  iterate 8 (first | go_skip | go_guarded | go_step | go_upon)
  obtain ⟨w2, hw2⟩ : ∃ w2, w2 = ((((w1.setCell ⟨w.heap.size, 0, none⟩ (.int .i64 p0)).setCell ⟨w.heap.size, 1, none⟩ (.bool fl)).setCell ⟨w.heap.size, 2, none⟩ (.slice a ss.length c)).setCell ⟨w.heap.size, 3, none⟩ (.string pt)).setCell ⟨w.heap.size, 4, none⟩ (.string ha) := ⟨_, rfl⟩
  rw [← hw2] at R2 L2 ⊢
  clear hw2 b0 b1 b2 b3 b4 bf
  obtain ⟨b0, b1, b2, b3, b4⟩ := R2.at5
  go_wp2_with fail
  refine (C22.out _ L2).out.mono ?_
  rintro e w3 ⟨rfl, hb3⟩
  have R3 := R2.below hb3
  have L3 := Below.next L2 hb3
  have z3 := R3.lt
  have R3' := R3.alloc (.cells #[.int .i64 0, .int .i64 0] 28)
  have E3 := Blk.new w3 28 #[.int .i64 0, .int .i64 0]
  have L3' := below_alloc' L3 (.cells #[.int .i64 0, .int .i64 0] 28)
  clear b0 b1 b2 b3 b4 R2 L2 hb3 C22
  obtain ⟨b0, b1, b2, b3, b4⟩ := R3.at5
  have x0 : (w3.alloc (.cells #[.int .i64 0, .int .i64 0] 28)).cell? ⟨w3.heap.size, 0, none⟩ = some (.int .i64 0) := E3.cell 0
  have HR4 := Lib.hid R3'
  have HL4 := Lib.hid L3'
  obtain ⟨w4, hw4⟩ : ∃ w4, w4 = w3.alloc (.cells #[.int .i64 0, .int .i64 0] 28) := ⟨_, rfl⟩
  rw [← hw4] at HR4 HL4
  clear R3 R3' E3 L3 L3' C18 x0
  go_wp2_with fail
  rw [← hw4]
  clear hw4
  refine (C24.out _ HL4.out).out.mono ?_
  rintro e w6 ⟨rfl, hb6⟩
  have R6 := HR4.out.below hb6
  have L6 := Below.next HL4.out hb6
  have t6 := HIN.out.strs.below L6
  clear b0 b1 b2 b3 b4 HR4 C24 hb6
  obtain ⟨b0, b1, b2, b3, b4⟩ := R6.at5
  have HL6 := Lib.hid L6
  have hlen := HIN.out.len
  have hcap := HIN.out.cap
  dsimp only at hlen hcap
  have hk : k < ss.length := hk
  obtain ⟨y, rfl, hcy⟩ := t6.at hk
  dsimp only at hcy
  rw [hke] at hcy
  have tt : Strs w6 (some y) (ss.take k) := by
    have := Vals.take t6 k
    unfold Strs; rw [List.map_take]; exact this
  have hkl : (ss.take k).length = k := by rw [List.length_take]; omega
  have C19' := count_any (ss.take k) (some y) c ⟨#[]⟩ w6 tt (by rw [hkl]; omega) (by rw [hkl]; omega)
  rw [hkl, hez] at C19'
  have HC19 := Lib.hid C19'
  have hsl := Lib.hid (fun W => take_run (P := Try.prog) 24 9 Try.underlying24 hi .i64 (some y) ss.length c k (by omega) W)
  have g1 : (0 : Int) ≤ (k : Int) := by omega
  have g2 : (k : Int) < (ss.length : Int) := by omega
  have g3 : (k : Int) ≤ (c : Int) := by omega
  clear R6 L6 t6 tt HIN hkl C19' hke
  go_wp2_with fail
  refine HC19.out.mono ?_
  rintro e w7 ⟨rfl, rfl⟩
  go_wp2_with fail
  refine (HA _).mono ?_
  rintro e w8 ⟨rfl, hb8⟩
  go_wp2
  go_ret
  exact ⟨rfl, Below.next HL6.out hb8⟩
set_option maxRecDepth 100000 in
set_option maxHeartbeats 400000 in
theorem finds_no_none (HA : Awake) (r : Rb) (a : Option Addr) (c : Nat) (b : ByteArray) (w : World) (hr : RobArg w r a c) (hfo : findOf (fewR r) b = (0, 0, false)) (hb : b ≠ E0) (hcn : cnt (allOf (fewR r)) b = 0) (heo : emptyOf (fewR r).slots = (0, false)) (hez : cnt (fewR r).slots E0 = 0) :
    Calls Try.prog 8 #[r.val a c, .string b] w fun e w' => e = .returned (.bool true) ∧ Below w.heap.size w w' := by
  have hrf := hr.few
  have V := Lib.hid (few_any r a c (w.alloc (.cells #[.int .i64 r.pos, .bool r.failed, .slice a r.slots.length c, .string r.port, .string r.hand] 26)) hr.cap hr.len)
  have c22 : ∀ wx, Below w.heap.size w wx → Hid (Calls Try.prog 22 #[(fewR r).val a c, .string b] wx fun e w' => e = .returned (.tuple #[.agg #[.int .i64 (findOf (fewR r) b).1, .int .i64 (findOf (fewR r) b).2.1], .bool (findOf (fewR r) b).2.2]) ∧ Below wx.heap.size wx w') := fun wx hb => Lib.hid (find_any _ a c b wx (hrf.strs.below hb) hrf.cap hrf.len)
  have c24 : ∀ wx, Below w.heap.size w wx → Hid (Calls Try.prog 24 #[(fewR r).val a c] wx fun e w' => e = .returned (.tuple #[.int .i64 (emptyOf (fewR r).slots).1, .bool (emptyOf (fewR r).slots).2]) ∧ Below wx.heap.size wx w') := fun wx hb => Lib.hid (empty_any _ a c wx (hrf.strs.below hb) hrf.cap hrf.len)
  have c18 : ∀ wx, Below w.heap.size w wx → Hid (Calls Try.prog 18 #[(fewR r).val a c] wx fun e w' => ∃ v, e = .returned v ∧ w'.ownsRow wx.heap.size 9 1 v (allOf (fewR r)).length ((allOf (fewR r)).map Value.string) ∧ Below wx.heap.size wx w') := fun wx hb => Lib.hid (held_any _ a c wx (hrf.strs.below hb) hrf.cap hrf.nil hrf.len)
  have hal : (allOf (fewR r)).length ≤ 1000000 := by
    have : (fewR r).slots.length ≤ 70 := by
      unfold fewR
      split
      · simp; omega
      · omega
    simp [allOf]; omega
  have R0 := Blk.new w 26 #[.int .i64 r.pos, .bool r.failed, .slice a r.slots.length c, .string r.port, .string r.hand]
  have L0 := below_alloc (Below.refl _ w) (.cells #[.int .i64 r.pos, .bool r.failed, .slice a r.slots.length c, .string r.port, .string r.hand] 26)
  have HR0 := Lib.hid R0
  have HL0 := Lib.hid L0
  obtain ⟨i0, hi, _, _, _⟩ := info_parts info9
  have q5 := ne_isEmpty hb
  clear hb
  rw [hfo] at c22
  rw [heo] at c24
  generalize hal0 : allOf (fewR r) = al at *
  generalize fewR r = r2 at *
  have HIN := Lib.hid hrf
  have C22 := Lib.hid c22
  have C24 := Lib.hid c24
  have C18 := Lib.hid c18
  clear R0 L0 hr hrf c22 c24 c18 hal0
  obtain ⟨p0, fl, ss, pt, ha⟩ := r2
  unfold Rb.val E0 at *
  dsimp only at *
  go_enter Try.func8, Try.ntmps8
  go_wp2_with fail
  refine V.out.mono ?_
  rintro e w1 ⟨rfl, hb1⟩
  have R1 := HR0.out.below hb1
  have L1 := Below.next HL0.out hb1
  obtain ⟨b0, b1, b2, b3, b4⟩ := R1.at5
  have bf := fun j => R1.free j
  have R2 := R1.five (.int .i64 p0) (.bool fl) (.slice a ss.length c) (.string pt) (.string ha)
  have L2 := below_five L1 (Nat.le_refl _) (.int .i64 p0) (.bool fl) (.slice a ss.length c) (.string pt) (.string ha)
  clear HR0 HL0 V hb1 R1 L1
  dsimp only
  iterate 8 (first | go_skip | go_guarded | go_step | go_upon)
  obtain ⟨w2, hw2⟩ : ∃ w2, w2 = ((((w1.setCell ⟨w.heap.size, 0, none⟩ (.int .i64 p0)).setCell ⟨w.heap.size, 1, none⟩ (.bool fl)).setCell ⟨w.heap.size, 2, none⟩ (.slice a ss.length c)).setCell ⟨w.heap.size, 3, none⟩ (.string pt)).setCell ⟨w.heap.size, 4, none⟩ (.string ha) := ⟨_, rfl⟩
  rw [← hw2] at R2 L2 ⊢
  clear hw2 b0 b1 b2 b3 b4 bf
  obtain ⟨b0, b1, b2, b3, b4⟩ := R2.at5
  go_wp2_with fail
  refine (C22.out _ L2).out.mono ?_
  rintro e w3 ⟨rfl, hb3⟩
  have R3 := R2.below hb3
  have L3 := Below.next L2 hb3
  have z3 := R3.lt
  have R3' := R3.alloc (.cells #[.int .i64 0, .int .i64 0] 28)
  have E3 := Blk.new w3 28 #[.int .i64 0, .int .i64 0]
  have L3' := below_alloc' L3 (.cells #[.int .i64 0, .int .i64 0] 28)
  clear b0 b1 b2 b3 b4 R2 L2 hb3 C22
  obtain ⟨b0, b1, b2, b3, b4⟩ := R3.at5
  have HR3 := Lib.hid R3'
  have HE3 := Lib.hid E3
  have C18' := C18.out _ L3'
  clear R3 R3' E3 L3
  go_wp2_with fail
  refine C18'.out.mono ?_
  rintro e w4 ⟨v4, rfl, hown4, hb4⟩
  have R4 := HR3.out.below hb4
  have E4 := HE3.out.below hb4
  have L4 := Below.next L3' hb4
  obtain ⟨a4, c4, rfl, s4, d4, _, _⟩ := ownsStrs hown4
  have C19 := Lib.hid (count_any al a4 c4 b w4 s4 d4 hal)
  rw [hcn] at C19
  clear b0 b1 b2 b3 b4 hown4 hb4 HR3 HE3 C18' L3' s4 d4 C18
  obtain ⟨b0, b1, b2, b3, b4⟩ := R4.at5
  have x0 : w4.cell? ⟨w3.heap.size, 0, none⟩ = some (.int .i64 0) := E4.cell 0
  have x1 : w4.cell? ⟨w3.heap.size, 1, none⟩ = some (.int .i64 0) := E4.cell 1
  have HR4 := Lib.hid R4
  have HL4 := Lib.hid L4
  clear R4 E4 L4
  go_wp2_with fail
  refine C19.out.mono ?_
  rintro e w5 ⟨rfl, rfl⟩
  go_wp2_with fail
  refine (C24.out _ HL4.out).out.mono ?_
  rintro e w6 ⟨rfl, hb6⟩
  have R6 := HR4.out.below hb6
  have L6 := Below.next HL4.out hb6
  have t6 := HIN.out.strs.below L6
  clear b0 b1 b2 b3 b4 HR4 C24 hb6
  obtain ⟨b0, b1, b2, b3, b4⟩ := R6.at5
  have HL6 := Lib.hid L6
  have C19' := Lib.hid (count_any ss a c ⟨#[]⟩ w6 t6 HIN.out.cap HIN.out.len)
  rw [hez] at C19'
  clear R6 L6 t6 HIN
  go_wp2_with fail
  refine C19'.out.mono ?_
  rintro e w7 ⟨rfl, rfl⟩
  go_wp2_with fail
  refine (HA _).mono ?_
  rintro e w8 ⟨rfl, hb8⟩
  go_wp2
  go_ret
  exact ⟨rfl, Below.next HL6.out hb8⟩
set_option maxRecDepth 100000 in
set_option maxHeartbeats 400000 in
theorem finds_no_some (HA : Awake) (r : Rb) (a : Option Addr) (c : Nat) (b : ByteArray) (w : World) (hr : RobArg w r a c) (hfo : findOf (fewR r) b = (0, 0, false)) (hb : b ≠ E0) (hcn : cnt (allOf (fewR r)) b = 0) (k : Nat) (heo : emptyOf (fewR r).slots = (k, true)) (hk : k < (fewR r).slots.length) (hke : (fewR r).slots[k] = E0) (hez : cnt ((fewR r).slots.take k) E0 = 0) :
    Calls Try.prog 8 #[r.val a c, .string b] w fun e w' => e = .returned (.bool true) ∧ Below w.heap.size w w' := by
  have hrf := hr.few
  have V := Lib.hid (few_any r a c (w.alloc (.cells #[.int .i64 r.pos, .bool r.failed, .slice a r.slots.length c, .string r.port, .string r.hand] 26)) hr.cap hr.len)
  have c22 : ∀ wx, Below w.heap.size w wx → Hid (Calls Try.prog 22 #[(fewR r).val a c, .string b] wx fun e w' => e = .returned (.tuple #[.agg #[.int .i64 (findOf (fewR r) b).1, .int .i64 (findOf (fewR r) b).2.1], .bool (findOf (fewR r) b).2.2]) ∧ Below wx.heap.size wx w') := fun wx hb => Lib.hid (find_any _ a c b wx (hrf.strs.below hb) hrf.cap hrf.len)
  have c24 : ∀ wx, Below w.heap.size w wx → Hid (Calls Try.prog 24 #[(fewR r).val a c] wx fun e w' => e = .returned (.tuple #[.int .i64 (emptyOf (fewR r).slots).1, .bool (emptyOf (fewR r).slots).2]) ∧ Below wx.heap.size wx w') := fun wx hb => Lib.hid (empty_any _ a c wx (hrf.strs.below hb) hrf.cap hrf.len)
  have c18 : ∀ wx, Below w.heap.size w wx → Hid (Calls Try.prog 18 #[(fewR r).val a c] wx fun e w' => ∃ v, e = .returned v ∧ w'.ownsRow wx.heap.size 9 1 v (allOf (fewR r)).length ((allOf (fewR r)).map Value.string) ∧ Below wx.heap.size wx w') := fun wx hb => Lib.hid (held_any _ a c wx (hrf.strs.below hb) hrf.cap hrf.nil hrf.len)
  have hal : (allOf (fewR r)).length ≤ 1000000 := by
    have : (fewR r).slots.length ≤ 70 := by
      unfold fewR
      split
      · simp; omega
      · omega
    simp [allOf]; omega
  have R0 := Blk.new w 26 #[.int .i64 r.pos, .bool r.failed, .slice a r.slots.length c, .string r.port, .string r.hand]
  have L0 := below_alloc (Below.refl _ w) (.cells #[.int .i64 r.pos, .bool r.failed, .slice a r.slots.length c, .string r.port, .string r.hand] 26)
  have HR0 := Lib.hid R0
  have HL0 := Lib.hid L0
  obtain ⟨i0, hi, _, _, _⟩ := info_parts info9
  have q5 := ne_isEmpty hb
  clear hb
  rw [hfo] at c22
  rw [heo] at c24
  generalize hal0 : allOf (fewR r) = al at *
  generalize fewR r = r2 at *
  have HIN := Lib.hid hrf
  have C22 := Lib.hid c22
  have C24 := Lib.hid c24
  have C18 := Lib.hid c18
  clear R0 L0 hr hrf c22 c24 c18 hal0
  obtain ⟨p0, fl, ss, pt, ha⟩ := r2
  unfold Rb.val E0 at *
  dsimp only at *
  go_enter Try.func8, Try.ntmps8
  go_wp2_with fail
  refine V.out.mono ?_
  rintro e w1 ⟨rfl, hb1⟩
  have R1 := HR0.out.below hb1
  have L1 := Below.next HL0.out hb1
  obtain ⟨b0, b1, b2, b3, b4⟩ := R1.at5
  have bf := fun j => R1.free j
  have R2 := R1.five (.int .i64 p0) (.bool fl) (.slice a ss.length c) (.string pt) (.string ha)
  have L2 := below_five L1 (Nat.le_refl _) (.int .i64 p0) (.bool fl) (.slice a ss.length c) (.string pt) (.string ha)
  clear HR0 HL0 V hb1 R1 L1
  dsimp only
  iterate 8 (first | go_skip | go_guarded | go_step | go_upon)
  obtain ⟨w2, hw2⟩ : ∃ w2, w2 = ((((w1.setCell ⟨w.heap.size, 0, none⟩ (.int .i64 p0)).setCell ⟨w.heap.size, 1, none⟩ (.bool fl)).setCell ⟨w.heap.size, 2, none⟩ (.slice a ss.length c)).setCell ⟨w.heap.size, 3, none⟩ (.string pt)).setCell ⟨w.heap.size, 4, none⟩ (.string ha) := ⟨_, rfl⟩
  rw [← hw2] at R2 L2 ⊢
  clear hw2 b0 b1 b2 b3 b4 bf
  obtain ⟨b0, b1, b2, b3, b4⟩ := R2.at5
  go_wp2_with fail
  refine (C22.out _ L2).out.mono ?_
  rintro e w3 ⟨rfl, hb3⟩
  have R3 := R2.below hb3
  have L3 := Below.next L2 hb3
  have z3 := R3.lt
  have R3' := R3.alloc (.cells #[.int .i64 0, .int .i64 0] 28)
  have E3 := Blk.new w3 28 #[.int .i64 0, .int .i64 0]
  have L3' := below_alloc' L3 (.cells #[.int .i64 0, .int .i64 0] 28)
  clear b0 b1 b2 b3 b4 R2 L2 hb3 C22
  obtain ⟨b0, b1, b2, b3, b4⟩ := R3.at5
  have HR3 := Lib.hid R3'
  have HE3 := Lib.hid E3
  have C18' := C18.out _ L3'
  clear R3 R3' E3 L3
  go_wp2_with fail
  refine C18'.out.mono ?_
  rintro e w4 ⟨v4, rfl, hown4, hb4⟩
  have R4 := HR3.out.below hb4
  have E4 := HE3.out.below hb4
  have L4 := Below.next L3' hb4
  obtain ⟨a4, c4, rfl, s4, d4, _, _⟩ := ownsStrs hown4
  have C19 := Lib.hid (count_any al a4 c4 b w4 s4 d4 hal)
  rw [hcn] at C19
  clear b0 b1 b2 b3 b4 hown4 hb4 HR3 HE3 C18' L3' s4 d4 C18
  obtain ⟨b0, b1, b2, b3, b4⟩ := R4.at5
  have x0 : w4.cell? ⟨w3.heap.size, 0, none⟩ = some (.int .i64 0) := E4.cell 0
  have x1 : w4.cell? ⟨w3.heap.size, 1, none⟩ = some (.int .i64 0) := E4.cell 1
  have HR4 := Lib.hid R4
  have HL4 := Lib.hid L4
  clear R4 E4 L4
  go_wp2_with fail
  refine C19.out.mono ?_
  rintro e w5 ⟨rfl, rfl⟩
  go_wp2_with fail
  refine (C24.out _ HL4.out).out.mono ?_
  rintro e w6 ⟨rfl, hb6⟩
  have R6 := HR4.out.below hb6
  have L6 := Below.next HL4.out hb6
  have t6 := HIN.out.strs.below L6
  clear b0 b1 b2 b3 b4 HR4 C24 hb6
  obtain ⟨b0, b1, b2, b3, b4⟩ := R6.at5
  have HL6 := Lib.hid L6
  have hlen := HIN.out.len
  have hcap := HIN.out.cap
  dsimp only at hlen hcap
  have hk : k < ss.length := hk
  obtain ⟨y, rfl, hcy⟩ := t6.at hk
  dsimp only at hcy
  rw [hke] at hcy
  have tt : Strs w6 (some y) (ss.take k) := by
    have := Vals.take t6 k
    unfold Strs; rw [List.map_take]; exact this
  have hkl : (ss.take k).length = k := by rw [List.length_take]; omega
  have C19' := count_any (ss.take k) (some y) c ⟨#[]⟩ w6 tt (by rw [hkl]; omega) (by rw [hkl]; omega)
  rw [hkl, hez] at C19'
  have HC19 := Lib.hid C19'
  have hsl := Lib.hid (fun W => take_run (P := Try.prog) 24 9 Try.underlying24 hi .i64 (some y) ss.length c k (by omega) W)
  have g1 : (0 : Int) ≤ (k : Int) := by omega
  have g2 : (k : Int) < (ss.length : Int) := by omega
  have g3 : (k : Int) ≤ (c : Int) := by omega
  clear R6 L6 t6 tt HIN hkl C19' hke
  go_wp2_with fail
  refine HC19.out.mono ?_
  rintro e w7 ⟨rfl, rfl⟩
  go_wp2_with fail
  refine (HA _).mono ?_
  rintro e w8 ⟨rfl, hb8⟩
  go_wp2
  go_ret
  exact ⟨rfl, Below.next HL6.out hb8⟩
end Go.Proofs.Ytpnkaoigpefmiaa
