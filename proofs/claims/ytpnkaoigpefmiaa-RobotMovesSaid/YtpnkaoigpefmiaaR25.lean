/- reach. -/
import Derived.Test.YtpnkaoigpefmiaaR24
import Derived.Test.YtpnkaoigpefmiaaR2
namespace Go.Proofs.Ytpnkaoigpefmiaa
open Go.RowKit
set_option linter.unusedVariables false
set_option linter.unusedSimpArgs false

def R0 : Rb := ⟨0, false, [], E0, E0⟩
noncomputable def reachOf (m : Md) (r : Rb) (k i : Int) : Rb × Int × Int :=
  if ¬ validR m r then (R0, 0, 8)
  else if r.failed = true then (R0, 0, 16)
  else if k = 3 ∨ (posOf m r k i).2 = false then (R0, 0, 11)
  else ({ r with pos := (posOf m r k i).1 }, travOf m r.pos (posOf m r k i).1, 0)
/-- A robot, a time and an error come back; the robot's slots are the call's own. -/
def GivesR (w : World) (o : Rb × Int × Int) (e : Ending) (w' : World) : Prop :=
  ∃ a' c', e = .returned (.tuple #[o.1.val a' c', .int .i64 o.2.1, .int .i64 o.2.2]) ∧ w'.ownsRow w.heap.size 9 1 (.slice a' o.1.slots.length c') o.1.slots.length (o.1.slots.map Value.string) ∧ Below w.heap.size w w'
theorem givesR0 {w w' : World} {n x : Int} (h : Below w.heap.size w w') : GivesR w (R0, n, x) (.returned (.tuple #[.agg #[.int .i64 0, .bool false, .slice none 0 0, .string E0, .string E0], .int .i64 n, .int .i64 x])) w' :=
  ⟨none, 0, rfl, ⟨by simp [R0], .inl ⟨rfl, rfl⟩⟩, h⟩
theorem Blk.at5 {W : World} {B : Nat} {t : TypeId} {v0 v1 v2 v3 v4 : Value} (h : Blk W B t #[v0, v1, v2, v3, v4]) :
    W.cell? ⟨B, 0, none⟩ = some v0 ∧ W.cell? ⟨B, 1, none⟩ = some v1 ∧ W.cell? ⟨B, 2, none⟩ = some v2 ∧ W.cell? ⟨B, 3, none⟩ = some v3 ∧ W.cell? ⟨B, 4, none⟩ = some v4 :=
  ⟨h.cell 0, h.cell 1, h.cell 2, h.cell 3, h.cell 4⟩
theorem Blk.five {W : World} {B : Nat} {t : TypeId} {u0 u1 u2 u3 u4 : Value} (h : Blk W B t #[u0, u1, u2, u3, u4]) (v0 v1 v2 v3 v4 : Value) :
    Blk (((((W.setCell ⟨B, 0, none⟩ v0).setCell ⟨B, 1, none⟩ v1).setCell ⟨B, 2, none⟩ v2).setCell ⟨B, 3, none⟩ v3).setCell ⟨B, 4, none⟩ v4) B t #[v0, v1, v2, v3, v4] :=
  ((((h.set 0 v0).set 1 v1).set 2 v2).set 3 v3).set 4 v4
theorem below_five {n B : Nat} {w W : World} (h : Below n w W) (hB : n ≤ B) (v0 v1 v2 v3 v4 : Value) :
    Below n w (((((W.setCell ⟨B, 0, none⟩ v0).setCell ⟨B, 1, none⟩ v1).setCell ⟨B, 2, none⟩ v2).setCell ⟨B, 3, none⟩ v3).setCell ⟨B, 4, none⟩ v4) :=
  ((((h.setCell hB _).setCell hB _).setCell hB _).setCell hB _).setCell hB _
theorem ownsRow_setCell {W : World} {base B j n size : Nat} {e : TypeId} {v u : Value} {xs : List Value} (h : W.ownsRow base e size v n xs) (hB : B < base) : (W.setCell ⟨B, j, none⟩ u).ownsRow base e size v n xs := by
  refine ⟨h.1, ?_⟩
  rcases h.2 with h | ⟨g, cap, cur, h1, h2, h3, h4⟩
  · exact .inl h
  · exact .inr ⟨g, cap, cur, h1, h2, (Below.heap_setCell W ⟨B, j, none⟩ u g (by show g ≠ B; omega)).trans h3, h4⟩
theorem ownsRow_five {W : World} {base B n size : Nat} {e : TypeId} {v : Value} {xs : List Value} (h : W.ownsRow base e size v n xs) (hB : B < base) (v0 v1 v2 v3 v4 : Value) :
    (((((W.setCell ⟨B, 0, none⟩ v0).setCell ⟨B, 1, none⟩ v1).setCell ⟨B, 2, none⟩ v2).setCell ⟨B, 3, none⟩ v3).setCell ⟨B, 4, none⟩ v4).ownsRow base e size v n xs :=
  ownsRow_setCell (ownsRow_setCell (ownsRow_setCell (ownsRow_setCell (ownsRow_setCell h hB) hB) hB) hB) hB
theorem posOf_valid {m : Md} {r : Rb} {k i : Int} (h : (posOf m r k i).2 = true) : validR m r := by
  by_cases hv : validR m r
  · exact hv
  · rw [posOf, if_pos hv] at h; cases h
theorem posOf_rail {m : Md} {r : Rb} {k i : Int} (h : (posOf m r k i).2 = true) : 0 ≤ (posOf m r k i).1 ∧ (posOf m r k i).1 ≤ railOf m := by
  have hv := posOf_valid h
  obtain ⟨⟨z0, z1⟩, ⟨z2, z3⟩, ⟨z4, z5⟩, ⟨z6, z7⟩, _⟩ := hv.mok
  have hp := hv.pos
  have hn : ¬ ¬ validR m r := not_not_intro hv
  unfold posOf at h ⊢
  rw [if_neg hn] at h ⊢
  have hrl : m.slots - 1 ≤ railOf m ∧ m.driveAt + m.drives - 1 ≤ railOf m ∧ m.portAt ≤ railOf m := by unfold railOf; omega
  by_cases b1 : k = 0 ∧ 0 ≤ i ∧ i < m.slots
  · rw [if_pos b1]; simp only; omega
  rw [if_neg b1] at h ⊢
  by_cases b2 : k = 1 ∧ 0 ≤ i ∧ i < m.drives
  · rw [if_pos b2]; simp only; omega
  rw [if_neg b2] at h ⊢
  by_cases b3 : k = 2 ∧ i = 0
  · rw [if_pos b3]; simp only; omega
  rw [if_neg b3] at h ⊢
  by_cases b4 : k = 3 ∧ i = 0
  · rw [if_pos b4]; simp only; omega
  rw [if_neg b4] at h; cases h
theorem posOf_kind {m : Md} {r : Rb} {k i : Int} (h : (posOf m r k i).2 = true) : k = 0 ∨ k = 1 ∨ k = 2 ∨ k = 3 := by
  have hv := posOf_valid h
  have hn : ¬ ¬ validR m r := not_not_intro hv
  unfold posOf at h
  rw [if_neg hn] at h
  by_cases b1 : k = 0
  · omega
  rw [if_neg (by omega)] at h
  by_cases b2 : k = 1
  · omega
  rw [if_neg (by omega)] at h
  by_cases b3 : k = 2
  · omega
  rw [if_neg (by omega)] at h
  by_cases b4 : k = 3
  · omega
  rw [if_neg (by omega)] at h; cases h
theorem below_set {n B : Nat} {w W : World} (h : Below n w W) (hB : n ≤ B) (j : Nat) (v : Value) : Below n w (W.setCell ⟨B, j, none⟩ v) := h.setCell hB v
/-- Four boxes. -/
structure B4 (w : World) (f0 f1 f2 f3 f4 f5 f6 : Int) (r : Rb) (a : Option Addr) (c : Nat) (k i : Int) (wx : World) : Prop where
  m : MB w f0 f1 f2 f3 f4 f5 f6 wx
  r : Blk wx (w.heap.size + 1) 26 #[.int .i64 r.pos, .bool r.failed, .slice a r.slots.length c, .string r.port, .string r.hand]
  e : EB (w.heap.size + 2) k i wx
  z : Blk wx (w.heap.size + 3) 26 #[.int .i64 0, .bool false, .slice none 0 0, .string E0, .string E0]
  low : Below w.heap.size w wx
theorem B4.next {w w1 w2 : World} {f0 f1 f2 f3 f4 f5 f6 : Int} {r : Rb} {a : Option Addr} {c : Nat} {k i : Int} (h : B4 w f0 f1 f2 f3 f4 f5 f6 r a c k i w1) (hb : Below w1.heap.size w1 w2) : B4 w f0 f1 f2 f3 f4 f5 f6 r a c k i w2 :=
  ⟨h.m.next hb, h.r.below hb, h.e.next hb, h.z.below hb, Below.next h.low hb⟩
theorem B4.start (w : World) (f0 f1 f2 f3 f4 f5 f6 : Int) (r : Rb) (a : Option Addr) (c : Nat) (k i : Int) : B4 w f0 f1 f2 f3 f4 f5 f6 r a c k i ((((w.alloc (.cells #[.int .i64 f0, .int .i64 f1, .int .i64 f2, .int .i64 f3, .int .i64 f4, .int .i64 f5, .int .i64 f6] 23)).alloc (.cells #[.int .i64 r.pos, .bool r.failed, .slice a r.slots.length c, .string r.port, .string r.hand] 26)).alloc (.cells #[.int .i64 k, .int .i64 i] 28)).alloc (.cells #[.int .i64 0, .bool false, .slice none 0 0, .string E0, .string E0] 26)) := by
  have X := B3.start w f0 f1 f2 f3 f4 f5 f6 r a c k i
  have hb := below_alloc (Below.refl _ (((w.alloc (.cells #[.int .i64 f0, .int .i64 f1, .int .i64 f2, .int .i64 f3, .int .i64 f4, .int .i64 f5, .int .i64 f6] 23)).alloc (.cells #[.int .i64 r.pos, .bool r.failed, .slice a r.slots.length c, .string r.port, .string r.hand] 26)).alloc (.cells #[.int .i64 k, .int .i64 i] 28))) (.cells #[.int .i64 0, .bool false, .slice none 0 0, .string E0, .string E0] 26)
  have R := ((Blk.new (w.alloc (.cells #[.int .i64 f0, .int .i64 f1, .int .i64 f2, .int .i64 f3, .int .i64 f4, .int .i64 f5, .int .i64 f6] 23)) 26 #[.int .i64 r.pos, .bool r.failed, .slice a r.slots.length c, .string r.port, .string r.hand]).alloc (.cells #[.int .i64 k, .int .i64 i] 28)).alloc (.cells #[.int .i64 0, .bool false, .slice none 0 0, .string E0, .string E0] 26)
  have Z := Blk.new (((w.alloc (.cells #[.int .i64 f0, .int .i64 f1, .int .i64 f2, .int .i64 f3, .int .i64 f4, .int .i64 f5, .int .i64 f6] 23)).alloc (.cells #[.int .i64 r.pos, .bool r.failed, .slice a r.slots.length c, .string r.port, .string r.hand] 26)).alloc (.cells #[.int .i64 k, .int .i64 i] 28)) 26 #[.int .i64 0, .bool false, .slice none 0 0, .string E0, .string E0]
  simp only [World.size_alloc] at R Z
  exact ⟨X.m.next hb, R, X.e.next hb, Z, Below.next X.low hb⟩
set_option maxRecDepth 100000 in
set_option maxHeartbeats 1000000 in
theorem reach_any (m : Md) (r : Rb) (a : Option Addr) (c : Nat) (k i : Int) (w : World) (hr : RobIn w r a c)
    (hi0 : -9223372036854775808 ≤ i) (hi1 : i ≤ 9223372036854775807) :
    Calls Try.prog 30 #[m.val, r.val a c, .agg #[.int .i64 k, .int .i64 i]] w (GivesR w (reachOf m r k i)) := by
  obtain ⟨f0, f1, f2, f3, f4, f5, f6⟩ := m
  obtain ⟨p0, fl, ss, pt, ha⟩ := r
  have X0 := B4.start w f0 f1 f2 f3 f4 f5 f6 (⟨p0, fl, ss, pt, ha⟩ : Rb) a c k i
  have V := valid_any ⟨f0, f1, f2, f3, f4, f5, f6⟩ (⟨p0, fl, ss, pt, ha⟩ : Rb) a c _ (hr.below X0.low)
  by_cases hv : validR ⟨f0, f1, f2, f3, f4, f5, f6⟩ (⟨p0, fl, ss, pt, ha⟩ : Rb)
  case neg =>
    have HV := Lib.hid (show reachOf ⟨f0, f1, f2, f3, f4, f5, f6⟩ (⟨p0, fl, ss, pt, ha⟩ : Rb) k i = (R0, 0, 8) by rw [reachOf, if_pos hv])
    rw [decide_eq_false hv] at V
    have HQ := Lib.hid V
    have HX0 := Lib.hid X0
    clear V hv X0 hr
    unfold Md.val Rb.val E0 at *
    go_enter Try.func30, Try.ntmps30
    go_wp2_with fail
    refine HQ.out.mono ?_
    rintro e w1 ⟨rfl, hb1⟩
    have X1 := HX0.out.next hb1
    obtain ⟨c0, c1, c2, c3, c4⟩ := X1.z.at5
    have hz := fun j => X1.z.free j
    have hz5 := X1.z.five (.int .i64 0) (.bool false) (.slice none 0 0) (.string E0) (.string E0)
    have hl5 := below_five X1.low (by omega : w.heap.size ≤ w.heap.size + 3) (.int .i64 0) (.bool false) (.slice none 0 0) (.string E0) (.string E0)
    obtain ⟨e0, e1, e2, e3, e4⟩ := hz5.at5
    unfold E0 at *
    clear X1 HX0 HQ hb1 hz5
    go_wp2
    refine bodyPost_ret (v := .tuple #[.agg #[.int .i64 0, .bool false, .slice none 0 0, .string E0, .string E0], .int .i64 0, .int .i64 8]) (by simp [results, Try.results30, go_sem, E0, e0, e1, e2, e3, e4]) rfl ?_
    rw [HV.out]; exact givesR0 hl5
  rw [decide_eq_true hv] at V
  have HQ := Lib.hid V
  have HX0 := Lib.hid X0
  clear V X0
  cases fl with
  | true =>
    have HV := Lib.hid (show reachOf ⟨f0, f1, f2, f3, f4, f5, f6⟩ (⟨p0, true, ss, pt, ha⟩ : Rb) k i = (R0, 0, 16) by rw [reachOf, if_neg (not_not_intro hv), if_pos rfl])
    clear hv hr
    unfold Md.val Rb.val at *
    go_enter Try.func30, Try.ntmps30
    go_wp2_with fail
    refine HQ.out.mono ?_
    rintro e w1 ⟨rfl, hb1⟩
    have X1 := HX0.out.next hb1
    obtain ⟨b0, b1, b2, b3, b4⟩ := X1.r.at5
    have hz5 := X1.z.five (.int .i64 0) (.bool false) (.slice none 0 0) (.string E0) (.string E0)
    have hl5 := below_five X1.low (by omega : w.heap.size ≤ w.heap.size + 3) (.int .i64 0) (.bool false) (.slice none 0 0) (.string E0) (.string E0)
    have HL5 := Lib.hid hl5
    obtain ⟨c0, c1, c2, c3, c4⟩ := X1.z.at5
    have hz := fun j => X1.z.free j
    obtain ⟨e0, e1, e2, e3, e4⟩ := hz5.at5
    have j0 := X1.e.g0
    have j1 := X1.e.g1
    unfold E0 at c3 c4 e0 e1 e2 e3 e4
    clear hl5 X1 hz5 HX0 HQ hb1
    go_wp2
    refine bodyPost_ret (v := .tuple #[.agg #[.int .i64 0, .bool false, .slice none 0 0, .string E0, .string E0], .int .i64 0, .int .i64 16]) (by simp [results, Try.results30, go_sem, E0, e0, e1, e2, e3, e4]) rfl ?_
    rw [HV.out]; exact givesR0 HL5.out
  | false =>
    have HP : ∀ wx, Below w.heap.size w wx → Hid (Calls Try.prog 20 #[(⟨f0, f1, f2, f3, f4, f5, f6⟩ : Md).val, (⟨p0, false, ss, pt, ha⟩ : Rb).val a c, .agg #[.int .i64 k, .int .i64 i]] wx fun e w' => e = .returned (.tuple #[.int .i64 (posOf ⟨f0, f1, f2, f3, f4, f5, f6⟩ (⟨p0, false, ss, pt, ha⟩ : Rb) k i).1, .bool (posOf ⟨f0, f1, f2, f3, f4, f5, f6⟩ (⟨p0, false, ss, pt, ha⟩ : Rb) k i).2]) ∧ Below wx.heap.size wx w') := fun wx hb => Lib.hid (position_any _ (⟨p0, false, ss, pt, ha⟩ : Rb) a c k i wx (hr.below hb) hi0 hi1)
    by_cases hk : k = 0 ∨ k = 1 ∨ k = 2
    case neg =>
      have n0 : (k == 0) = false := beq_eq_false_iff_ne.2 (by omega)
      have n1 : (k == 1) = false := beq_eq_false_iff_ne.2 (by omega)
      have n2 : (k == 2) = false := beq_eq_false_iff_ne.2 (by omega)
      have HV := Lib.hid (show reachOf ⟨f0, f1, f2, f3, f4, f5, f6⟩ (⟨p0, false, ss, pt, ha⟩ : Rb) k i = (R0, 0, 11) by
        rw [reachOf, if_neg (not_not_intro hv), if_neg (by simp), if_pos]
        by_cases h3 : k = 3
        · exact .inl h3
        · refine .inr ?_
          cases h : (posOf ⟨f0, f1, f2, f3, f4, f5, f6⟩ (⟨p0, false, ss, pt, ha⟩ : Rb) k i).2 with
          | false => rfl
          | true => rcases posOf_kind h with h | h | h | h <;> omega)
      generalize posOf ⟨f0, f1, f2, f3, f4, f5, f6⟩ (⟨p0, false, ss, pt, ha⟩ : Rb) k i = po at HP
      clear hv hr hk
      unfold Md.val Rb.val at *
      go_enter Try.func30, Try.ntmps30
      go_wp2_with fail
      refine HQ.out.mono ?_
      rintro e w1 ⟨rfl, hb1⟩
      have X1 := HX0.out.next hb1
      have HB1 := Lib.hid X1.low
      have HX1 := Lib.hid X1
      obtain ⟨b0, b1, b2, b3, b4⟩ := X1.r.at5
      obtain ⟨m0, m1, m2, m3, m4, m5, m6, m7⟩ := X1.m
      have j0 := X1.e.g0
      have j1 := X1.e.g1
      clear X1 HX0 HQ hb1
      go_wp2_with fail
      refine (HP _ HB1.out).out.mono ?_
      rintro e w2 ⟨rfl, hb2⟩
      have X2 := HX1.out.next hb2
      have hz5 := X2.z.five (.int .i64 0) (.bool false) (.slice none 0 0) (.string E0) (.string E0)
      have hl5 := below_five X2.low (by omega : w.heap.size ≤ w.heap.size + 3) (.int .i64 0) (.bool false) (.slice none 0 0) (.string E0) (.string E0)
      have HL5 := Lib.hid hl5
      obtain ⟨c0, c1, c2, c3, c4⟩ := X2.z.at5
      have hz := fun j => X2.z.free j
      obtain ⟨e0, e1, e2, e3, e4⟩ := hz5.at5
      have j0 := X2.e.g0
      have j1 := X2.e.g1
      unfold E0 at c3 c4 e0 e1 e2 e3 e4
      clear hl5 X2 hz5 HP hb2
      go_wp2
      refine bodyPost_ret (v := .tuple #[.agg #[.int .i64 0, .bool false, .slice none 0 0, .string E0, .string E0], .int .i64 0, .int .i64 11]) (by simp [results, Try.results30, go_sem, E0, e0, e1, e2, e3, e4]) rfl ?_
      rw [HV.out]; exact givesR0 HL5.out
    cases hp : (posOf ⟨f0, f1, f2, f3, f4, f5, f6⟩ (⟨p0, false, ss, pt, ha⟩ : Rb) k i).2 with
    | false =>
      have HV := Lib.hid (show reachOf ⟨f0, f1, f2, f3, f4, f5, f6⟩ (⟨p0, false, ss, pt, ha⟩ : Rb) k i = (R0, 0, 11) by rw [reachOf, if_neg (not_not_intro hv), if_neg (by simp), if_pos (.inr hp)])
      rw [hp] at HP
      generalize (posOf ⟨f0, f1, f2, f3, f4, f5, f6⟩ (⟨p0, false, ss, pt, ha⟩ : Rb) k i).1 = po at HP
      clear hv hr hp
      rcases hk with rfl | rfl | rfl
      all_goals
        unfold Md.val Rb.val at *
        go_enter Try.func30, Try.ntmps30
        go_wp2_with fail
        refine HQ.out.mono ?_
        rintro e w1 ⟨rfl, hb1⟩
        have X1 := HX0.out.next hb1
        have HB1 := Lib.hid X1.low
        have HX1 := Lib.hid X1
        obtain ⟨b0, b1, b2, b3, b4⟩ := X1.r.at5
        obtain ⟨m0, m1, m2, m3, m4, m5, m6, m7⟩ := X1.m
        have j0 := X1.e.g0
        have j1 := X1.e.g1
        clear X1 HX0 HQ hb1
        go_wp2_with fail
        refine (HP _ HB1.out).out.mono ?_
        rintro e w2 ⟨rfl, hb2⟩
        have X2 := HX1.out.next hb2
        have hz5 := X2.z.five (.int .i64 0) (.bool false) (.slice none 0 0) (.string E0) (.string E0)
        have hl5 := below_five X2.low (by omega : w.heap.size ≤ w.heap.size + 3) (.int .i64 0) (.bool false) (.slice none 0 0) (.string E0) (.string E0)
        have HL5 := Lib.hid hl5
        obtain ⟨c0, c1, c2, c3, c4⟩ := X2.z.at5
        have hz := fun j => X2.z.free j
        obtain ⟨e0, e1, e2, e3, e4⟩ := hz5.at5
        have j0 := X2.e.g0
        have j1 := X2.e.g1
        unfold E0 at c3 c4 e0 e1 e2 e3 e4
        clear hl5 X2 hz5 HP hb2
        go_wp2
        refine bodyPost_ret (v := .tuple #[.agg #[.int .i64 0, .bool false, .slice none 0 0, .string E0, .string E0], .int .i64 0, .int .i64 11]) (by simp [results, Try.results30, go_sem, E0, e0, e1, e2, e3, e4]) rfl ?_
        rw [HV.out]; exact givesR0 HL5.out

    | true =>
      have HV := Lib.hid (show reachOf ⟨f0, f1, f2, f3, f4, f5, f6⟩ (⟨p0, false, ss, pt, ha⟩ : Rb) k i = ((⟨(posOf ⟨f0, f1, f2, f3, f4, f5, f6⟩ (⟨p0, false, ss, pt, ha⟩ : Rb) k i).1, false, ss, pt, ha⟩ : Rb), travOf ⟨f0, f1, f2, f3, f4, f5, f6⟩ p0 (posOf ⟨f0, f1, f2, f3, f4, f5, f6⟩ (⟨p0, false, ss, pt, ha⟩ : Rb) k i).1, 0) by
        rw [reachOf, if_neg (not_not_intro hv), if_neg (by simp), if_neg]
        rintro (h | h)
        · omega
        · rw [hp] at h; cases h)
      have hpr := posOf_rail hp
      have hrl := railOf_le hv.mok
      rw [hp] at HP
      generalize (posOf ⟨f0, f1, f2, f3, f4, f5, f6⟩ (⟨p0, false, ss, pt, ha⟩ : Rb) k i).1 = po at *
      have HT := fun wx => Lib.hid (travel_any ⟨f0, f1, f2, f3, f4, f5, f6⟩ p0 po wx hr.lo hr.hi (by omega) (by omega))
      have HC : ∀ wx, Below w.heap.size w wx → Hid (Calls Try.prog 43 #[.slice a ss.length c] wx fun e w' => ∃ v, e = .returned v ∧ w'.ownsRow wx.heap.size 9 1 v ss.length (ss.map Value.string) ∧ Below wx.heap.size wx w') := fun wx hb => Lib.hid (clone_any ss a c wx (hr.strs.below hb) hr.cap hr.nil hr.len)
      generalize travOf ⟨f0, f1, f2, f3, f4, f5, f6⟩ p0 po = tv at *
      clear hv hr hp hpr hrl
      rcases hk with rfl | rfl | rfl
      all_goals
        unfold Md.val Rb.val at *
        go_enter Try.func30, Try.ntmps30
        go_wp2_with fail
        refine HQ.out.mono ?_
        rintro e w1 ⟨rfl, hb1⟩
        have X1 := HX0.out.next hb1
        have HB1 := Lib.hid X1.low
        have HX1 := Lib.hid X1
        obtain ⟨b0, b1, b2, b3, b4⟩ := X1.r.at5
        obtain ⟨m0, m1, m2, m3, m4, m5, m6, m7⟩ := X1.m
        have j0 := X1.e.g0
        have j1 := X1.e.g1
        clear X1 HX0 HQ hb1
        go_wp2_with fail
        refine (HP _ HB1.out).out.mono ?_
        rintro e w2 ⟨rfl, hb2⟩
        have X2 := HX1.out.next hb2
        have HX2 := Lib.hid X2
        obtain ⟨b0, b1, b2, b3, b4⟩ := X2.r.at5
        obtain ⟨m0, m1, m2, m3, m4, m5, m6, m7⟩ := X2.m
        have j0 := X2.e.g0
        have j1 := X2.e.g1
        clear X2 HX1 HP hb2
        go_wp2_with fail
        refine (HT _).out.mono ?_
        rintro e w3 ⟨rfl, hb3⟩
        have X3 := HX2.out.next hb3
        have HX3 := Lib.hid X3
        obtain ⟨b0, b1, b2, b3, b4⟩ := X3.r.at5
        have bf := fun j => X3.r.free j
        have HL3 := Lib.hid (below_set X3.low (by omega : w.heap.size ≤ w.heap.size + 1) 0 (.int .i64 po))
        clear X3 HX2 HT hb3
        go_wp2_with fail
        refine (HC _ HL3.out).out.mono ?_
        rintro e w4 ⟨v, rfl, hown, hb4⟩
        have hl3 := HX3.out.z.lt
        have hr4 := (HX3.out.r.set 0 (.int .i64 po)).below hb4
        have hz4 := (HX3.out.z.other (B' := w.heap.size + 1) 0 (by omega) (.int .i64 po)).below hb4
        simp only [List.setIfInBounds_toArray, List.set_cons_zero] at hr4
        rw [show (w3.setCell ⟨w.heap.size + 1, 0, none⟩ (.int .i64 po)).heap.size = w3.heap.size from by simp [World.setCell]] at hown
        obtain ⟨a4, c4, rfl, _, _, _, _⟩ := ownsStrs hown
        have hr5 := hr4.set 2 (.slice a4 ss.length c4)
        simp only [List.setIfInBounds_toArray, List.set_cons_zero, List.set_cons_succ] at hr5
        have hz5 := hz4.other (B' := w.heap.size + 1) 2 (by omega) (.slice a4 ss.length c4)
        have HOW := Lib.hid (ownsRow_mono (ownsRow_five (ownsRow_setCell (B := w.heap.size + 1) (j := 2) (u := .slice a4 ss.length c4) hown (by omega)) (by omega : w.heap.size + 3 < w3.heap.size) (.int .i64 po) (.bool false) (.slice a4 ss.length c4) (.string pt) (.string ha)) (by omega : w.heap.size ≤ w3.heap.size))
        have HLL := Lib.hid (below_five (below_set (Below.trans HL3.out (hb4.mono (by have := HL3.out.size; omega))) (by omega : w.heap.size ≤ w.heap.size + 1) 2 (.slice a4 ss.length c4)) (by omega : w.heap.size ≤ w.heap.size + 3) (.int .i64 po) (.bool false) (.slice a4 ss.length c4) (.string pt) (.string ha))
        have hz6 := hz5.five (.int .i64 po) (.bool false) (.slice a4 ss.length c4) (.string pt) (.string ha)
        obtain ⟨b0, b1, b2, b3, b4⟩ := hr4.at5
        have bf := fun j => hr4.free j
        obtain ⟨d0, d1, d2, d3, d4⟩ := hr5.at5
        obtain ⟨c0, c1, c2, c3, c4'⟩ := hz5.at5
        have hz := fun j => hz5.free j
        obtain ⟨e0, e1, e2, e3, e4⟩ := hz6.at5
        clear hr4 hz4 hr5 hz5 hz6 hown HX3 HC hb4
        go_wp2
        refine bodyPost_ret (v := .tuple #[.agg #[.int .i64 po, .bool false, .slice a4 ss.length c4, .string pt, .string ha], .int .i64 tv, .int .i64 0]) (by simp [results, Try.results30, go_sem, e0, e1, e2, e3, e4]) rfl ?_
        rw [HV.out]; exact ⟨a4, c4, rfl, HOW.out, HLL.out⟩
end Go.Proofs.Ytpnkaoigpefmiaa
