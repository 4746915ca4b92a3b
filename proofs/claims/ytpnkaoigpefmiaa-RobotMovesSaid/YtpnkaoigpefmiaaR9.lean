/- Position in the reference. -/
import Derived.Test.YtpnkaoigpefmiaaR8
namespace Go.Proofs.Ytpnkaoigpefmiaa
open Go.RowKit
set_option linter.unusedVariables false
set_option linter.unusedSimpArgs false

noncomputable def posOf (m : Md) (r : Rb) (k i : Int) : Int × Bool :=
  if ¬ validR m r then (0, false)
  else if k = 0 ∧ 0 ≤ i ∧ i < m.slots then (i, true)
  else if k = 1 ∧ 0 ≤ i ∧ i < m.drives then (m.driveAt + i, true)
  else if k = 2 ∧ i = 0 then (m.portAt, true)
  else if k = 3 ∧ i = 0 then (r.pos, true)
  else (0, false)
/-- A boxed element. -/
structure EB (B : Nat) (k i : Int) (wx : World) : Prop where
  lt : B < wx.heap.size
  g0 : wx.cell? ⟨B, 0, none⟩ = some (.int .i64 k)
  g1 : wx.cell? ⟨B, 1, none⟩ = some (.int .i64 i)
theorem EB.next {B : Nat} {k i : Int} {w1 w2 : World} (h : EB B k i w1) (hb : Below w1.heap.size w1 w2) : EB B k i w2 := by
  obtain ⟨lt, g0, g1⟩ := h
  have := hb.size
  exact ⟨by omega, by rw [hb.cell lt]; exact g0, by rw [hb.cell lt]; exact g1⟩
theorem EB.start (w : World) (k i : Int) : EB w.heap.size k i (w.alloc (.cells #[.int .i64 k, .int .i64 i] 28)) :=
  ⟨by simp, by rw [World.cell?_alloc_mark]; rfl, by rw [World.cell?_alloc_mark]; rfl⟩
/-- Three boxes. -/
structure B3 (w : World) (f0 f1 f2 f3 f4 f5 f6 : Int) (r : Rb) (a : Option Addr) (c : Nat) (k i : Int) (wx : World) : Prop where
  m : MB w f0 f1 f2 f3 f4 f5 f6 wx
  r : RB (w.heap.size + 1) r a c wx
  e : EB (w.heap.size + 2) k i wx
  low : Below w.heap.size w wx
theorem B3.next {w w1 w2 : World} {f0 f1 f2 f3 f4 f5 f6 : Int} {r : Rb} {a : Option Addr} {c : Nat} {k i : Int} (h : B3 w f0 f1 f2 f3 f4 f5 f6 r a c k i w1) (hb : Below w1.heap.size w1 w2) : B3 w f0 f1 f2 f3 f4 f5 f6 r a c k i w2 :=
  ⟨h.m.next hb, h.r.next hb, h.e.next hb, Below.next h.low hb⟩
theorem B3.start (w : World) (f0 f1 f2 f3 f4 f5 f6 : Int) (r : Rb) (a : Option Addr) (c : Nat) (k i : Int) : B3 w f0 f1 f2 f3 f4 f5 f6 r a c k i (((w.alloc (.cells #[.int .i64 f0, .int .i64 f1, .int .i64 f2, .int .i64 f3, .int .i64 f4, .int .i64 f5, .int .i64 f6] 23)).alloc (.cells #[.int .i64 r.pos, .bool r.failed, .slice a r.slots.length c, .string r.port, .string r.hand] 26)).alloc (.cells #[.int .i64 k, .int .i64 i] 28)) := by
  have s1 : (w.alloc (.cells #[.int .i64 f0, .int .i64 f1, .int .i64 f2, .int .i64 f3, .int .i64 f4, .int .i64 f5, .int .i64 f6] 23)).heap.size = w.heap.size + 1 := by simp
  have s2 : ((w.alloc (.cells #[.int .i64 f0, .int .i64 f1, .int .i64 f2, .int .i64 f3, .int .i64 f4, .int .i64 f5, .int .i64 f6] 23)).alloc (.cells #[.int .i64 r.pos, .bool r.failed, .slice a r.slots.length c, .string r.port, .string r.hand] 26)).heap.size = w.heap.size + 2 := by simp
  have M := (((MB.start w f0 f1 f2 f3 f4 f5 f6).next (below_alloc (Below.refl _ _) (.cells #[.int .i64 r.pos, .bool r.failed, .slice a r.slots.length c, .string r.port, .string r.hand] 26))).next (below_alloc (Below.refl _ _) (.cells #[.int .i64 k, .int .i64 i] 28)))
  have R := (RB.start (w.alloc (.cells #[.int .i64 f0, .int .i64 f1, .int .i64 f2, .int .i64 f3, .int .i64 f4, .int .i64 f5, .int .i64 f6] 23)) r a c).next (below_alloc (Below.refl _ _) (.cells #[.int .i64 k, .int .i64 i] 28))
  have E := EB.start ((w.alloc (.cells #[.int .i64 f0, .int .i64 f1, .int .i64 f2, .int .i64 f3, .int .i64 f4, .int .i64 f5, .int .i64 f6] 23)).alloc (.cells #[.int .i64 r.pos, .bool r.failed, .slice a r.slots.length c, .string r.port, .string r.hand] 26)) k i
  rw [s1] at R
  rw [s2] at E
  exact ⟨M, R, E, below_alloc (below_alloc (below_alloc (Below.refl _ _) _) _) _⟩
set_option maxRecDepth 100000 in
set_option maxHeartbeats 8000000 in
theorem rposition_any (m : Md) (r : Rb) (a : Option Addr) (c : Nat) (k i : Int) (w : World) (hx : Strs w a r.slots) (hc : r.slots.length ≤ c) (hnil : a = none → c = 0) (hl : r.slots.length ≤ 1000000)
    (hi0 : -9223372036854775808 ≤ i) (hi1 : i ≤ 9223372036854775807) :
    Calls Try.prog 21 #[m.val, r.val a c, .agg #[.int .i64 k, .int .i64 i]] w fun e w' => e = .returned (.tuple #[.int .i64 (posOf m r k i).1, .bool (posOf m r k i).2]) ∧ Below w.heap.size w w' := by
  obtain ⟨f0, f1, f2, f3, f4, f5, f6⟩ := m
  have X0 := B3.start w f0 f1 f2 f3 f4 f5 f6 r a c k i
  have V := rvalid_any ⟨f0, f1, f2, f3, f4, f5, f6⟩ r a c _ (hx.below X0.low) hc hnil hl
  by_cases hv : validR ⟨f0, f1, f2, f3, f4, f5, f6⟩ r
  case neg =>
    have hp : posOf ⟨f0, f1, f2, f3, f4, f5, f6⟩ r k i = (0, false) := by rw [posOf, if_pos hv]
    have HV := Lib.hid hp
    rw [decide_eq_false hv] at V
    have HQ := Lib.hid V
    clear V hp hv X0 hx
    unfold Md.val Rb.val at *
    go_enter Try.func21, Try.ntmps21
    go_wp2_with fail
    refine HQ.out.mono ?_
    rintro e w1 ⟨rfl, hb1⟩
    go_wp2
    go_ret2
    exact ⟨by rw [HV.out]; rfl, Below.next (below_alloc (below_alloc (below_alloc (Below.refl _ _) _) _) _) hb1⟩
  rw [decide_eq_true hv] at V
  have HQ := Lib.hid V
  have hmk := hv.mok
  obtain ⟨⟨z0, z1⟩, ⟨z2, z3⟩, ⟨z4, z5⟩, ⟨z6, z7⟩, _⟩ := hmk
  simp only at z0 z1 z2 z3 z4 z5 z6 z7
  have HX0 := Lib.hid X0
  clear V X0 hx
  by_cases k0 : k = 0
  case pos =>
   subst k0
   by_cases h1 : 0 ≤ i ∧ i ≤ f0 - 1
   case pos =>
    have HV : Hid (posOf ⟨f0, f1, f2, f3, f4, f5, f6⟩ r 0 i = (i, true)) := Lib.hid (by unfold posOf; rw [if_neg (by simpa using hv), if_pos (by constructor; rfl; show 0 ≤ i ∧ i < f0; omega)])
    clear hv
    unfold Md.val Rb.val at *
    go_enter Try.func21, Try.ntmps21
    go_wp2_with fail
    refine HQ.out.mono ?_
    rintro e w1 ⟨rfl, hb1⟩
    have X1 := HX0.out.next hb1
    have c0 := X1.e.g0
    have c1 := X1.e.g1
    have d0 := X1.m.g0
    have d1 := X1.m.g1
    have d2 := X1.m.g2
    have d3 := X1.m.g3
    have d4 := X1.r.g0
    have HLo := Lib.hid X1.low
    clear X1 HX0 HQ hb1
    go_wp2_with fail
    refine (in39_true _ _ _ _ h1).mono ?_
    rintro e w2 ⟨rfl, rfl⟩
    go_wp2
    go_ret2
    exact ⟨by rw [HV.out]; rfl, HLo.out⟩
   case neg =>
    have HV : Hid (posOf ⟨f0, f1, f2, f3, f4, f5, f6⟩ r 0 i = (0, false)) := Lib.hid (by unfold posOf; rw [if_neg (by simpa using hv), if_neg (by show ¬ (_ ∧ 0 ≤ i ∧ i < f0); omega), if_neg (by omega), if_neg (by omega), if_neg (by omega)])
    clear hv
    unfold Md.val Rb.val at *
    go_enter Try.func21, Try.ntmps21
    go_wp2_with fail
    refine HQ.out.mono ?_
    rintro e w1 ⟨rfl, hb1⟩
    have X1 := HX0.out.next hb1
    have c0 := X1.e.g0
    have c1 := X1.e.g1
    have d0 := X1.m.g0
    have d1 := X1.m.g1
    have d2 := X1.m.g2
    have d3 := X1.m.g3
    have d4 := X1.r.g0
    have HLo := Lib.hid X1.low
    clear X1 HX0 HQ hb1
    go_wp2_with fail
    refine (in39_false _ _ _ _ h1).mono ?_
    rintro e w2 ⟨rfl, rfl⟩
    go_wp2
    go_ret2
    exact ⟨by rw [HV.out]; rfl, HLo.out⟩
  have n0 : (k == 0) = false := beq_eq_false_iff_ne.2 k0
  by_cases k1 : k = 1
  case pos =>
   subst k1
   by_cases h1 : 0 ≤ i ∧ i ≤ f1 - 1
   case pos =>
    have HV : Hid (posOf ⟨f0, f1, f2, f3, f4, f5, f6⟩ r 1 i = (f2 + i, true)) := Lib.hid (by unfold posOf; rw [if_neg (by simpa using hv), if_neg (by omega), if_pos (by constructor; rfl; show 0 ≤ i ∧ i < f1; omega)])
    clear hv
    unfold Md.val Rb.val at *
    go_enter Try.func21, Try.ntmps21
    go_wp2_with fail
    refine HQ.out.mono ?_
    rintro e w1 ⟨rfl, hb1⟩
    have X1 := HX0.out.next hb1
    have c0 := X1.e.g0
    have c1 := X1.e.g1
    have d0 := X1.m.g0
    have d1 := X1.m.g1
    have d2 := X1.m.g2
    have d3 := X1.m.g3
    have d4 := X1.r.g0
    have HLo := Lib.hid X1.low
    clear X1 HX0 HQ hb1
    go_wp2_with fail
    refine (in39_true _ _ _ _ h1).mono ?_
    rintro e w2 ⟨rfl, rfl⟩
    go_wp2
    go_ret2
    exact ⟨by rw [HV.out]; rfl, HLo.out⟩
   case neg =>
    have HV : Hid (posOf ⟨f0, f1, f2, f3, f4, f5, f6⟩ r 1 i = (0, false)) := Lib.hid (by unfold posOf; rw [if_neg (by simpa using hv), if_neg (by omega), if_neg (by show ¬ (_ ∧ 0 ≤ i ∧ i < f1); omega), if_neg (by omega), if_neg (by omega)])
    clear hv
    unfold Md.val Rb.val at *
    go_enter Try.func21, Try.ntmps21
    go_wp2_with fail
    refine HQ.out.mono ?_
    rintro e w1 ⟨rfl, hb1⟩
    have X1 := HX0.out.next hb1
    have c0 := X1.e.g0
    have c1 := X1.e.g1
    have d0 := X1.m.g0
    have d1 := X1.m.g1
    have d2 := X1.m.g2
    have d3 := X1.m.g3
    have d4 := X1.r.g0
    have HLo := Lib.hid X1.low
    clear X1 HX0 HQ hb1
    go_wp2_with fail
    refine (in39_false _ _ _ _ h1).mono ?_
    rintro e w2 ⟨rfl, rfl⟩
    go_wp2
    go_ret2
    exact ⟨by rw [HV.out]; rfl, HLo.out⟩
  have n1 : (k == 1) = false := beq_eq_false_iff_ne.2 k1
  by_cases k2 : k = 2
  case pos =>
   subst k2
   by_cases h1 : i = 0
   case pos =>
    subst h1
    have HV : Hid (posOf ⟨f0, f1, f2, f3, f4, f5, f6⟩ r 2 0 = (f3, true)) := Lib.hid (by unfold posOf; rw [if_neg (by simpa using hv), if_neg (by omega), if_neg (by omega), if_pos (by omega)])
    clear hv
    unfold Md.val Rb.val at *
    go_enter Try.func21, Try.ntmps21
    go_wp2_with fail
    refine HQ.out.mono ?_
    rintro e w1 ⟨rfl, hb1⟩
    have X1 := HX0.out.next hb1
    have c0 := X1.e.g0
    have c1 := X1.e.g1
    have d0 := X1.m.g0
    have d1 := X1.m.g1
    have d2 := X1.m.g2
    have d3 := X1.m.g3
    have d4 := X1.r.g0
    have HLo := Lib.hid X1.low
    clear X1 HX0 HQ hb1
    go_wp2
    go_ret2
    exact ⟨by rw [HV.out]; rfl, HLo.out⟩
   case neg =>
    have n9 : (i == 0) = false := beq_eq_false_iff_ne.2 h1
    have HV : Hid (posOf ⟨f0, f1, f2, f3, f4, f5, f6⟩ r 2 i = (0, false)) := Lib.hid (by unfold posOf; rw [if_neg (by simpa using hv), if_neg (by omega), if_neg (by omega), if_neg (by omega), if_neg (by omega)])
    clear hv
    unfold Md.val Rb.val at *
    go_enter Try.func21, Try.ntmps21
    go_wp2_with fail
    refine HQ.out.mono ?_
    rintro e w1 ⟨rfl, hb1⟩
    have X1 := HX0.out.next hb1
    have c0 := X1.e.g0
    have c1 := X1.e.g1
    have d0 := X1.m.g0
    have d1 := X1.m.g1
    have d2 := X1.m.g2
    have d3 := X1.m.g3
    have d4 := X1.r.g0
    have HLo := Lib.hid X1.low
    clear X1 HX0 HQ hb1
    go_wp2
    go_ret2
    exact ⟨by rw [HV.out]; rfl, HLo.out⟩
  have n2 : (k == 2) = false := beq_eq_false_iff_ne.2 k2
  by_cases k3 : k = 3
  case pos =>
   subst k3
   by_cases h1 : i = 0
   case pos =>
    subst h1
    have HV : Hid (posOf ⟨f0, f1, f2, f3, f4, f5, f6⟩ r 3 0 = (r.pos, true)) := Lib.hid (by unfold posOf; rw [if_neg (by simpa using hv), if_neg (by omega), if_neg (by omega), if_neg (by omega), if_pos (by omega)])
    clear hv
    unfold Md.val Rb.val at *
    go_enter Try.func21, Try.ntmps21
    go_wp2_with fail
    refine HQ.out.mono ?_
    rintro e w1 ⟨rfl, hb1⟩
    have X1 := HX0.out.next hb1
    have c0 := X1.e.g0
    have c1 := X1.e.g1
    have d0 := X1.m.g0
    have d1 := X1.m.g1
    have d2 := X1.m.g2
    have d3 := X1.m.g3
    have d4 := X1.r.g0
    have HLo := Lib.hid X1.low
    clear X1 HX0 HQ hb1
    go_wp2
    go_ret2
    exact ⟨by rw [HV.out]; rfl, HLo.out⟩
   case neg =>
    have n9 : (i == 0) = false := beq_eq_false_iff_ne.2 h1
    have HV : Hid (posOf ⟨f0, f1, f2, f3, f4, f5, f6⟩ r 3 i = (0, false)) := Lib.hid (by unfold posOf; rw [if_neg (by simpa using hv), if_neg (by omega), if_neg (by omega), if_neg (by omega), if_neg (by omega)])
    clear hv
    unfold Md.val Rb.val at *
    go_enter Try.func21, Try.ntmps21
    go_wp2_with fail
    refine HQ.out.mono ?_
    rintro e w1 ⟨rfl, hb1⟩
    have X1 := HX0.out.next hb1
    have c0 := X1.e.g0
    have c1 := X1.e.g1
    have d0 := X1.m.g0
    have d1 := X1.m.g1
    have d2 := X1.m.g2
    have d3 := X1.m.g3
    have d4 := X1.r.g0
    have HLo := Lib.hid X1.low
    clear X1 HX0 HQ hb1
    go_wp2
    go_ret2
    exact ⟨by rw [HV.out]; rfl, HLo.out⟩
  have n3 : (k == 3) = false := beq_eq_false_iff_ne.2 k3
  have HV : Hid (posOf ⟨f0, f1, f2, f3, f4, f5, f6⟩ r k i = (0, false)) := Lib.hid (by unfold posOf; rw [if_neg (by simpa using hv), if_neg (by omega), if_neg (by omega), if_neg (by omega), if_neg (by omega)])
  clear hv
  unfold Md.val Rb.val at *
  go_enter Try.func21, Try.ntmps21
  go_wp2_with fail
  refine HQ.out.mono ?_
  rintro e w1 ⟨rfl, hb1⟩
  have X1 := HX0.out.next hb1
  have c0 := X1.e.g0
  have c1 := X1.e.g1
  have d0 := X1.m.g0
  have d1 := X1.m.g1
  have d2 := X1.m.g2
  have d3 := X1.m.g3
  have d4 := X1.r.g0
  have HLo := Lib.hid X1.low
  clear X1 HX0 HQ hb1
  go_wp2
  go_ret2
  exact ⟨by rw [HV.out]; rfl, HLo.out⟩
end Go.Proofs.Ytpnkaoigpefmiaa
