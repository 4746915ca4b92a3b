/- The law RobotMoves: four boxes; the ways on which Pick or Put fails. -/
import Derived.Test.YtpnkaoigpefmiaaR55
namespace Go.Proofs.Ytpnkaoigpefmiaa
open Go.RowKit
set_option linter.unusedVariables false
set_option linter.unusedSimpArgs false

/-- Four boxes: a model, a robot, two elements. -/
structure D4 (w : World) (f0 f1 f2 f3 f4 f5 f6 : Int) (r : Rb) (a : Option Addr) (c : Nat) (k i kb ib : Int) (wx : World) : Prop where
  c3 : C3 w f0 f1 f2 f3 f4 f5 f6 r a c k i wx
  e2 : EB (w.heap.size + 3) kb ib wx
theorem D4.low {w : World} {f0 f1 f2 f3 f4 f5 f6 : Int} {r : Rb} {a : Option Addr} {c : Nat} {k i kb ib : Int} {wx : World} (h : D4 w f0 f1 f2 f3 f4 f5 f6 r a c k i kb ib wx) : Below w.heap.size w wx := h.c3.low
theorem D4.m {w : World} {f0 f1 f2 f3 f4 f5 f6 : Int} {r : Rb} {a : Option Addr} {c : Nat} {k i kb ib : Int} {wx : World} (h : D4 w f0 f1 f2 f3 f4 f5 f6 r a c k i kb ib wx) : MB w f0 f1 f2 f3 f4 f5 f6 wx := h.c3.m
theorem D4.r {w : World} {f0 f1 f2 f3 f4 f5 f6 : Int} {r : Rb} {a : Option Addr} {c : Nat} {k i kb ib : Int} {wx : World} (h : D4 w f0 f1 f2 f3 f4 f5 f6 r a c k i kb ib wx) : Blk wx (w.heap.size + 1) 26 #[.int .i64 r.pos, .bool r.failed, .slice a r.slots.length c, .string r.port, .string r.hand] := h.c3.r
theorem D4.e {w : World} {f0 f1 f2 f3 f4 f5 f6 : Int} {r : Rb} {a : Option Addr} {c : Nat} {k i kb ib : Int} {wx : World} (h : D4 w f0 f1 f2 f3 f4 f5 f6 r a c k i kb ib wx) : EB (w.heap.size + 2) k i wx := h.c3.e
theorem D4.next {w w1 w2 : World} {f0 f1 f2 f3 f4 f5 f6 : Int} {r : Rb} {a : Option Addr} {c : Nat} {k i kb ib : Int} (h : D4 w f0 f1 f2 f3 f4 f5 f6 r a c k i kb ib w1) (hb : Below w1.heap.size w1 w2) : D4 w f0 f1 f2 f3 f4 f5 f6 r a c k i kb ib w2 :=
  ⟨h.c3.next hb, h.e2.next hb⟩
theorem D4.start (w : World) (f0 f1 f2 f3 f4 f5 f6 : Int) (r : Rb) (a : Option Addr) (c : Nat) (k i kb ib : Int) : D4 w f0 f1 f2 f3 f4 f5 f6 r a c k i kb ib ((((w.alloc (.cells #[.int .i64 f0, .int .i64 f1, .int .i64 f2, .int .i64 f3, .int .i64 f4, .int .i64 f5, .int .i64 f6] 23)).alloc (.cells #[.int .i64 r.pos, .bool r.failed, .slice a r.slots.length c, .string r.port, .string r.hand] 26)).alloc (.cells #[.int .i64 k, .int .i64 i] 28)).alloc (.cells #[.int .i64 kb, .int .i64 ib] 28)) := by
  have X := C3.start w f0 f1 f2 f3 f4 f5 f6 r a c k i
  have E := EB.start (((w.alloc (.cells #[.int .i64 f0, .int .i64 f1, .int .i64 f2, .int .i64 f3, .int .i64 f4, .int .i64 f5, .int .i64 f6] 23)).alloc (.cells #[.int .i64 r.pos, .bool r.failed, .slice a r.slots.length c, .string r.port, .string r.hand] 26)).alloc (.cells #[.int .i64 k, .int .i64 i] 28)) kb ib
  simp only [World.size_alloc] at E
  exact ⟨X.next (below_alloc (Below.refl _ _) _), E⟩
theorem D4.turn {w w1 : World} {f0 f1 f2 f3 f4 f5 f6 : Int} {r : Rb} {a : Option Addr} {c : Nat} {k i kb ib : Int} (h : D4 w f0 f1 f2 f3 f4 f5 f6 r a c k i kb ib w1) (r' : Rb) (a' : Option Addr) (c' : Nat) :
    D4 w f0 f1 f2 f3 f4 f5 f6 r' a' c' k i kb ib (((((w1.setCell ⟨w.heap.size + 1, 0, none⟩ (.int .i64 r'.pos)).setCell ⟨w.heap.size + 1, 1, none⟩ (.bool r'.failed)).setCell ⟨w.heap.size + 1, 2, none⟩ (.slice a' r'.slots.length c')).setCell ⟨w.heap.size + 1, 3, none⟩ (.string r'.port)).setCell ⟨w.heap.size + 1, 4, none⟩ (.string r'.hand)) := by
  refine ⟨h.c3.turn r' a' c', ?_⟩
  obtain ⟨et, e0, e1⟩ := h.e2
  have C : ∀ (W : World) (o q : Nat) (u v : Value), W.cell? ⟨w.heap.size + 3, o, none⟩ = some v → (W.setCell ⟨w.heap.size + 1, q, none⟩ u).cell? ⟨w.heap.size + 3, o, none⟩ = some v := fun W o q u v hv => by
    rw [World.cell?_setCell_other _ _ _ _ (by intro e; injection e with e _ _; omega)]; exact hv
  exact ⟨by simpa [World.setCell] using et, C _ _ _ _ _ (C _ _ _ _ _ (C _ _ _ _ _ (C _ _ _ _ _ (C _ _ _ _ _ e0)))), C _ _ _ _ _ (C _ _ _ _ _ (C _ _ _ _ _ (C _ _ _ _ _ (C _ _ _ _ _ e1))))⟩
set_option maxRecDepth 100000 in
set_option maxHeartbeats 1000000 in
theorem moves_err1 (HA : Awake) (m : Md) (r : Rb) (a : Option Addr) (c : Nat) (k i kb ib : Int) (b : ByteArray) (w : World) (hr : RobArg w r a c)
    (hi0 : -9223372036854775808 ≤ i) (hi1 : i ≤ 9223372036854775807) (he : (pickOf m (fewR r) k i b).2.2 ≠ 0) :
    Calls Try.prog 5 #[m.val, r.val a c, .agg #[.int .i64 k, .int .i64 i], .agg #[.int .i64 kb, .int .i64 ib], .string b] w fun e w' => e = .returned (.bool true) ∧ Below w.heap.size w w' := by
  have hpf := pick_fail he
  obtain ⟨f0, f1, f2, f3, f4, f5, f6⟩ := m
  have hrf := hr.few
  have X0 := D4.start w f0 f1 f2 f3 f4 f5 f6 r a c k i kb ib
  have V := Lib.hid (few_any r a c ((((w.alloc (.cells #[.int .i64 f0, .int .i64 f1, .int .i64 f2, .int .i64 f3, .int .i64 f4, .int .i64 f5, .int .i64 f6] 23)).alloc (.cells #[.int .i64 r.pos, .bool r.failed, .slice a r.slots.length c, .string r.port, .string r.hand] 26)).alloc (.cells #[.int .i64 k, .int .i64 i] 28)).alloc (.cells #[.int .i64 kb, .int .i64 ib] 28)) hr.cap hr.len)
  have hab : ∀ wx, Below w.heap.size w wx → Calls Try.prog 10 #[(⟨f0, f1, f2, f3, f4, f5, f6⟩ : Md).val, (fewR r).val a c, .agg #[.int .i64 k, .int .i64 i], .string b] wx (GivesR wx (pickOf ⟨f0, f1, f2, f3, f4, f5, f6⟩ (fewR r) k i b)) := fun wx hb => pick_any _ _ a c k i b wx (hrf.below hb) hi0 hi1
  have HX0 := Lib.hid X0
  generalize pickOf ⟨f0, f1, f2, f3, f4, f5, f6⟩ (fewR r) k i b = o at *
  generalize fewR r = r2 at *
  have HB := Lib.hid hab
  clear X0 hr hrf hab hi0 hi1
  obtain ⟨r1, t1, e1⟩ := o
  obtain ⟨p0, fl, ss, pt, ha⟩ := r2
  obtain ⟨q0, q1, qs, q3, q4⟩ := r1
  unfold R0 at hpf
  simp only [Prod.mk.injEq, Rb.mk.injEq] at hpf
  obtain ⟨⟨rfl, rfl, rfl, rfl, rfl⟩, rfl, _⟩ := hpf
  have hq : (e1 != 0) = true := by rw [bne_iff_ne]; exact he
  clear he
  unfold Md.val Rb.val E0 at *
  dsimp only at *
  go_enter Try.func5, Try.ntmps5
  go_wp2_with fail
  refine V.out.mono ?_
  rintro e w1 ⟨rfl, hb1⟩
  have X1 := HX0.out.next hb1
  have X2 := X1.turn ⟨p0, fl, ss, pt, ha⟩ a c
  dsimp only at X2
  obtain ⟨b0, b1, b2, b3, b4⟩ := X1.r.at5
  have bf := fun j => X1.r.free j
  clear HX0 V hb1 X1
  dsimp only
  iterate 8 (first | go_skip | go_guarded | go_step | go_upon)
  obtain ⟨w2, hw2⟩ : ∃ w2, w2 = ((((w1.setCell ⟨w.heap.size + 1, 0, none⟩ (.int .i64 p0)).setCell ⟨w.heap.size + 1, 1, none⟩ (.bool fl)).setCell ⟨w.heap.size + 1, 2, none⟩ (.slice a ss.length c)).setCell ⟨w.heap.size + 1, 3, none⟩ (.string pt)).setCell ⟨w.heap.size + 1, 4, none⟩ (.string ha) := ⟨_, rfl⟩
  rw [← hw2] at X2 ⊢
  clear hw2 b0 b1 b2 b3 b4 bf
  obtain ⟨b0, b1, b2, b3, b4⟩ := X2.r.at5
  obtain ⟨m0, m1, m2, m3, m4, m5, m6, m7⟩ := X2.m
  have j0 := X2.e.g0
  have j1 := X2.e.g1
  have i0 := X2.e2.g0
  have i1 := X2.e2.g1
  dsimp only at b0 b1 b2 b3 b4
  have HX2 := Lib.hid X2
  have HB2 := HB.out _ X2.low
  clear X2 HB
  go_wp2_with fail
  refine HB2.mono ?_
  rintro e w3 ⟨a3, c3, rfl, hown3, hb3⟩
  have X3 := HX2.out.next hb3
  have HL := Lib.hid (below_alloc' X3.low (.cells #[.int .i64 0, .bool false, .slice a3 0 c3, .string E0, .string E0] 26))
  clear X3 HB2 HX2 hown3 hb3
  try dsimp only [Rb.val]
  unfold E0 at HL
  go_wp2_with fail
  refine (HA _).mono ?_
  rintro e w6 ⟨rfl, hb6⟩
  go_wp2
  go_ret
  exact ⟨rfl, Below.next HL.out hb6⟩
end Go.Proofs.Ytpnkaoigpefmiaa
