/- Valid and Position. -/
import Derived.Test.YtpnkaoigpefmiaaR21
import Derived.Test.YtpnkaoigpefmiaaR9
namespace Go.Proofs.Ytpnkaoigpefmiaa
open Go.RowKit
set_option linter.unusedVariables false
set_option linter.unusedSimpArgs false

/-- A robot that came in. -/
structure RobIn (w : World) (r : Rb) (a : Option Addr) (c : Nat) : Prop where
  strs : Strs w a r.slots
  cap : r.slots.length ≤ c
  nil : a = none → c = 0
  len : r.slots.length ≤ 1000000
  size : ∀ x ∈ items r, x.2.2.size ≤ maxLen
  lo : -9223372036854775808 ≤ r.pos
  hi : r.pos ≤ 9223372036854775807
theorem RobIn.below {w w' : World} {r : Rb} {a : Option Addr} {c : Nat} (h : RobIn w r a c) (hb : Below w.heap.size w w') : RobIn w' r a c :=
  ⟨h.strs.below hb, h.cap, h.nil, h.len, h.size, h.lo, h.hi⟩
theorem valid_any (m : Md) (r : Rb) (a : Option Addr) (c : Nat) (w : World) (h : RobIn w r a c) :
    Calls Try.prog 16 #[m.val, r.val a c] w fun e w' => e = .returned (.bool (decide (validR m r))) ∧ Below w.heap.size w w' := by
  by_cases hv : mok m ∧ (r.slots.length : Int) = m.slots ∧ 0 ≤ r.pos ∧ r.pos ≤ railOf m
  · have HV : decide (validR m r) = decide (once (allOf r)) := by
      by_cases ho : once (allOf r)
      · rw [decide_eq_true ho, decide_eq_true (⟨hv.1, hv.2.1, hv.2.2, ho⟩ : validR _ r)]
      · rw [decide_eq_false ho, decide_eq_false (fun h => ho h.one)]
    rw [HV]
    exact valid_true m r a c w h.strs h.cap h.len hv.1 hv.2.1 hv.2.2 h.size
  · rw [decide_eq_false (fun x => hv ⟨x.mok, x.len, x.pos⟩)]
    exact valid_false m r a c w h.strs h.cap h.len hv
set_option maxRecDepth 100000 in
set_option maxHeartbeats 8000000 in
theorem position_any (m : Md) (r : Rb) (a : Option Addr) (c : Nat) (k i : Int) (w : World) (hr : RobIn w r a c)
    (hi0 : -9223372036854775808 ≤ i) (hi1 : i ≤ 9223372036854775807) :
    Calls Try.prog 20 #[m.val, r.val a c, .agg #[.int .i64 k, .int .i64 i]] w fun e w' => e = .returned (.tuple #[.int .i64 (posOf m r k i).1, .bool (posOf m r k i).2]) ∧ Below w.heap.size w w' := by
  obtain ⟨f0, f1, f2, f3, f4, f5, f6⟩ := m
  have X0 := B3.start w f0 f1 f2 f3 f4 f5 f6 r a c k i
  have V := valid_any ⟨f0, f1, f2, f3, f4, f5, f6⟩ r a c _ (hr.below X0.low)
  by_cases hv : validR ⟨f0, f1, f2, f3, f4, f5, f6⟩ r
  case neg =>
    have hp : posOf ⟨f0, f1, f2, f3, f4, f5, f6⟩ r k i = (0, false) := by rw [posOf, if_pos hv]
    have HV := Lib.hid hp
    rw [decide_eq_false hv] at V
    have HQ := Lib.hid V
    have HX0 := Lib.hid X0
    clear V hp hv X0 hr
    unfold Md.val Rb.val at *
    go_enter Try.func20, Try.ntmps20
    go_wp2_with fail
    refine HQ.out.mono ?_
    rintro e w1 ⟨rfl, hb1⟩
    have X1 := HX0.out.next hb1
    have c0 := X1.e.g0
    have c1 := X1.e.g1
    have d0 := X1.m.g0
    have d1 := X1.m.g1
    have d2 := X1.m.g2
    have d3 := X1.m.g3
    have d4 := X1.r.g0
    have HLo := Lib.hid X1.low
    clear X1 HX0 HQ hb1
    go_wp2
    go_ret2
    exact ⟨by rw [HV.out]; rfl, HLo.out⟩
  rw [decide_eq_true hv] at V
  have HQ := Lib.hid V
  have hmk := hv.mok
  obtain ⟨⟨z0, z1⟩, ⟨z2, z3⟩, ⟨z4, z5⟩, ⟨z6, z7⟩, _⟩ := hmk
  simp only at z0 z1 z2 z3 z4 z5 z6 z7
  have HX0 := Lib.hid X0
  clear V X0 hr
  by_cases hin : i < 0
  case pos =>
    have q : decide (i < 0) = true := decide_eq_true hin
    have HV : Hid (posOf ⟨f0, f1, f2, f3, f4, f5, f6⟩ r k i = (0, false)) := Lib.hid (by unfold posOf; rw [if_neg (by simpa using hv), if_neg (by first | omega | (simp; done) | (simp; omega)), if_neg (by first | omega | (simp; done) | (simp; omega)), if_neg (by first | omega | (simp; done) | (simp; omega)), if_neg (by first | omega | (simp; done) | (simp; omega))])
    clear hv
    unfold Md.val Rb.val at *
    go_enter Try.func20, Try.ntmps20
    go_wp2_with fail
    refine HQ.out.mono ?_
    rintro e w1 ⟨rfl, hb1⟩
    have X1 := HX0.out.next hb1
    have c0 := X1.e.g0
    have c1 := X1.e.g1
    have d0 := X1.m.g0
    have d1 := X1.m.g1
    have d2 := X1.m.g2
    have d3 := X1.m.g3
    have d4 := X1.r.g0
    have HLo := Lib.hid X1.low
    clear X1 HX0 HQ hb1
    go_wp2
    go_ret2
    exact ⟨by rw [HV.out]; rfl, HLo.out⟩
  have qi : decide (i < 0) = false := decide_eq_false hin
  by_cases k0 : k = 0
  case pos =>
   subst k0
   by_cases h1 : i < f0
   case pos =>
    have q : decide (i < f0) = true := decide_eq_true h1
    have HV : Hid (posOf ⟨f0, f1, f2, f3, f4, f5, f6⟩ r 0 i = (i, true)) := Lib.hid (by unfold posOf; rw [if_neg (by simpa using hv), if_pos (by first | omega | (simp; done) | (simp; omega))])
    clear hv
    unfold Md.val Rb.val at *
    go_enter Try.func20, Try.ntmps20
    go_wp2_with fail
    refine HQ.out.mono ?_
    rintro e w1 ⟨rfl, hb1⟩
    have X1 := HX0.out.next hb1
    have c0 := X1.e.g0
    have c1 := X1.e.g1
    have d0 := X1.m.g0
    have d1 := X1.m.g1
    have d2 := X1.m.g2
    have d3 := X1.m.g3
    have d4 := X1.r.g0
    have HLo := Lib.hid X1.low
    clear X1 HX0 HQ hb1
    go_wp2
    go_ret2
    exact ⟨by rw [HV.out]; rfl, HLo.out⟩
   case neg =>
    have q : decide (i < f0) = false := decide_eq_false h1
    have HV : Hid (posOf ⟨f0, f1, f2, f3, f4, f5, f6⟩ r 0 i = (0, false)) := Lib.hid (by unfold posOf; rw [if_neg (by simpa using hv), if_neg (by first | omega | (simp; done) | (simp; omega)), if_neg (by first | omega | (simp; done) | (simp; omega)), if_neg (by first | omega | (simp; done) | (simp; omega)), if_neg (by first | omega | (simp; done) | (simp; omega))])
    clear hv
    unfold Md.val Rb.val at *
    go_enter Try.func20, Try.ntmps20
    go_wp2_with fail
    refine HQ.out.mono ?_
    rintro e w1 ⟨rfl, hb1⟩
    have X1 := HX0.out.next hb1
    have c0 := X1.e.g0
    have c1 := X1.e.g1
    have d0 := X1.m.g0
    have d1 := X1.m.g1
    have d2 := X1.m.g2
    have d3 := X1.m.g3
    have d4 := X1.r.g0
    have HLo := Lib.hid X1.low
    clear X1 HX0 HQ hb1
    go_wp2
    go_ret2
    exact ⟨by rw [HV.out]; rfl, HLo.out⟩
  have n0 : (k == 0) = false := beq_eq_false_iff_ne.2 k0
  by_cases k1 : k = 1
  case pos =>
   subst k1
   by_cases h1 : i < f1
   case pos =>
    have q : decide (i < f1) = true := decide_eq_true h1
    have HV : Hid (posOf ⟨f0, f1, f2, f3, f4, f5, f6⟩ r 1 i = (f2 + i, true)) := Lib.hid (by unfold posOf; rw [if_neg (by simpa using hv), if_neg (by first | omega | (simp; done) | (simp; omega)), if_pos (by first | omega | (simp; done) | (simp; omega))])
    clear hv
    unfold Md.val Rb.val at *
    go_enter Try.func20, Try.ntmps20
    go_wp2_with fail
    refine HQ.out.mono ?_
    rintro e w1 ⟨rfl, hb1⟩
    have X1 := HX0.out.next hb1
    have c0 := X1.e.g0
    have c1 := X1.e.g1
    have d0 := X1.m.g0
    have d1 := X1.m.g1
    have d2 := X1.m.g2
    have d3 := X1.m.g3
    have d4 := X1.r.g0
    have HLo := Lib.hid X1.low
    clear X1 HX0 HQ hb1
    go_wp2
    go_ret2
    exact ⟨by rw [HV.out]; rfl, HLo.out⟩
   case neg =>
    have q : decide (i < f1) = false := decide_eq_false h1
    have HV : Hid (posOf ⟨f0, f1, f2, f3, f4, f5, f6⟩ r 1 i = (0, false)) := Lib.hid (by unfold posOf; rw [if_neg (by simpa using hv), if_neg (by first | omega | (simp; done) | (simp; omega)), if_neg (by first | omega | (simp; done) | (simp; omega)), if_neg (by first | omega | (simp; done) | (simp; omega)), if_neg (by first | omega | (simp; done) | (simp; omega))])
    clear hv
    unfold Md.val Rb.val at *
    go_enter Try.func20, Try.ntmps20
    go_wp2_with fail
    refine HQ.out.mono ?_
    rintro e w1 ⟨rfl, hb1⟩
    have X1 := HX0.out.next hb1
    have c0 := X1.e.g0
    have c1 := X1.e.g1
    have d0 := X1.m.g0
    have d1 := X1.m.g1
    have d2 := X1.m.g2
    have d3 := X1.m.g3
    have d4 := X1.r.g0
    have HLo := Lib.hid X1.low
    clear X1 HX0 HQ hb1
    go_wp2
    go_ret2
    exact ⟨by rw [HV.out]; rfl, HLo.out⟩
  have n1 : (k == 1) = false := beq_eq_false_iff_ne.2 k1
  by_cases k2 : k = 2
  case pos =>
   subst k2
   by_cases h1 : i = 0
   case pos =>
    subst h1
    have HV : Hid (posOf ⟨f0, f1, f2, f3, f4, f5, f6⟩ r 2 0 = (f3, true)) := Lib.hid (by unfold posOf; rw [if_neg (by simpa using hv), if_neg (by first | omega | (simp; done) | (simp; omega)), if_neg (by first | omega | (simp; done) | (simp; omega)), if_pos (by first | omega | (simp; done) | (simp; omega))])
    clear hv
    unfold Md.val Rb.val at *
    go_enter Try.func20, Try.ntmps20
    go_wp2_with fail
    refine HQ.out.mono ?_
    rintro e w1 ⟨rfl, hb1⟩
    have X1 := HX0.out.next hb1
    have c0 := X1.e.g0
    have c1 := X1.e.g1
    have d0 := X1.m.g0
    have d1 := X1.m.g1
    have d2 := X1.m.g2
    have d3 := X1.m.g3
    have d4 := X1.r.g0
    have HLo := Lib.hid X1.low
    clear X1 HX0 HQ hb1
    go_wp2
    go_ret2
    exact ⟨by rw [HV.out]; rfl, HLo.out⟩
   case neg =>
    have q : (i == 0) = false := beq_eq_false_iff_ne.2 h1
    have HV : Hid (posOf ⟨f0, f1, f2, f3, f4, f5, f6⟩ r 2 i = (0, false)) := Lib.hid (by unfold posOf; rw [if_neg (by simpa using hv), if_neg (by first | omega | (simp; done) | (simp; omega)), if_neg (by first | omega | (simp; done) | (simp; omega)), if_neg (by first | omega | (simp; done) | (simp; omega)), if_neg (by first | omega | (simp; done) | (simp; omega))])
    clear hv
    unfold Md.val Rb.val at *
    go_enter Try.func20, Try.ntmps20
    go_wp2_with fail
    refine HQ.out.mono ?_
    rintro e w1 ⟨rfl, hb1⟩
    have X1 := HX0.out.next hb1
    have c0 := X1.e.g0
    have c1 := X1.e.g1
    have d0 := X1.m.g0
    have d1 := X1.m.g1
    have d2 := X1.m.g2
    have d3 := X1.m.g3
    have d4 := X1.r.g0
    have HLo := Lib.hid X1.low
    clear X1 HX0 HQ hb1
    go_wp2
    go_ret2
    exact ⟨by rw [HV.out]; rfl, HLo.out⟩
  have n2 : (k == 2) = false := beq_eq_false_iff_ne.2 k2
  by_cases k3 : k = 3
  case pos =>
   subst k3
   by_cases h1 : i = 0
   case pos =>
    subst h1
    have HV : Hid (posOf ⟨f0, f1, f2, f3, f4, f5, f6⟩ r 3 0 = (r.pos, true)) := Lib.hid (by unfold posOf; rw [if_neg (by simpa using hv), if_neg (by first | omega | (simp; done) | (simp; omega)), if_neg (by first | omega | (simp; done) | (simp; omega)), if_neg (by first | omega | (simp; done) | (simp; omega)), if_pos (by first | omega | (simp; done) | (simp; omega))])
    clear hv
    unfold Md.val Rb.val at *
    go_enter Try.func20, Try.ntmps20
    go_wp2_with fail
    refine HQ.out.mono ?_
    rintro e w1 ⟨rfl, hb1⟩
    have X1 := HX0.out.next hb1
    have c0 := X1.e.g0
    have c1 := X1.e.g1
    have d0 := X1.m.g0
    have d1 := X1.m.g1
    have d2 := X1.m.g2
    have d3 := X1.m.g3
    have d4 := X1.r.g0
    have HLo := Lib.hid X1.low
    clear X1 HX0 HQ hb1
    go_wp2
    go_ret2
    exact ⟨by rw [HV.out]; rfl, HLo.out⟩
   case neg =>
    have q : (i == 0) = false := beq_eq_false_iff_ne.2 h1
    have HV : Hid (posOf ⟨f0, f1, f2, f3, f4, f5, f6⟩ r 3 i = (0, false)) := Lib.hid (by unfold posOf; rw [if_neg (by simpa using hv), if_neg (by first | omega | (simp; done) | (simp; omega)), if_neg (by first | omega | (simp; done) | (simp; omega)), if_neg (by first | omega | (simp; done) | (simp; omega)), if_neg (by first | omega | (simp; done) | (simp; omega))])
    clear hv
    unfold Md.val Rb.val at *
    go_enter Try.func20, Try.ntmps20
    go_wp2_with fail
    refine HQ.out.mono ?_
    rintro e w1 ⟨rfl, hb1⟩
    have X1 := HX0.out.next hb1
    have c0 := X1.e.g0
    have c1 := X1.e.g1
    have d0 := X1.m.g0
    have d1 := X1.m.g1
    have d2 := X1.m.g2
    have d3 := X1.m.g3
    have d4 := X1.r.g0
    have HLo := Lib.hid X1.low
    clear X1 HX0 HQ hb1
    go_wp2
    go_ret2
    exact ⟨by rw [HV.out]; rfl, HLo.out⟩
  have n3 : (k == 3) = false := beq_eq_false_iff_ne.2 k3
  have HV : Hid (posOf ⟨f0, f1, f2, f3, f4, f5, f6⟩ r k i = (0, false)) := Lib.hid (by unfold posOf; rw [if_neg (by simpa using hv), if_neg (by first | omega | (simp; done) | (simp; omega)), if_neg (by first | omega | (simp; done) | (simp; omega)), if_neg (by first | omega | (simp; done) | (simp; omega)), if_neg (by first | omega | (simp; done) | (simp; omega))])
  clear hv
  unfold Md.val Rb.val at *
  go_enter Try.func20, Try.ntmps20
  go_wp2_with fail
  refine HQ.out.mono ?_
  rintro e w1 ⟨rfl, hb1⟩
  have X1 := HX0.out.next hb1
  have c0 := X1.e.g0
  have c1 := X1.e.g1
  have d0 := X1.m.g0
  have d1 := X1.m.g1
  have d2 := X1.m.g2
  have d3 := X1.m.g3
  have d4 := X1.r.g0
  have HLo := Lib.hid X1.low
  clear X1 HX0 HQ hb1
  go_wp2
  go_ret2
  exact ⟨by rw [HV.out]; rfl, HLo.out⟩
end Go.Proofs.Ytpnkaoigpefmiaa
