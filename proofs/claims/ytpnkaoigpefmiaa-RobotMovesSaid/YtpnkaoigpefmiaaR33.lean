/- The reference's reach, at and with. -/
import Derived.Test.YtpnkaoigpefmiaaR32
namespace Go.Proofs.Ytpnkaoigpefmiaa
open Go.RowKit
set_option linter.unusedVariables false
set_option linter.unusedSimpArgs false

noncomputable def rreachOf (m : Md) (r : Rb) (k i : Int) : Int := if (reachOf m r k i).2.2 = 0 then (posOf m r k i).1 else 0
set_option maxRecDepth 100000 in
set_option maxHeartbeats 1000000 in
theorem rreach_any (m : Md) (r : Rb) (a : Option Addr) (c : Nat) (k i : Int) (w : World) (hr : RobIn w r a c)
    (hi0 : -9223372036854775808 ≤ i) (hi1 : i ≤ 9223372036854775807) :
    Calls Try.prog 32 #[m.val, r.val a c, .agg #[.int .i64 k, .int .i64 i]] w fun e w' => e = .returned (.tuple #[.int .i64 (rreachOf m r k i), .int .i64 (reachOf m r k i).2.2]) ∧ Below w.heap.size w w' := by
  obtain ⟨f0, f1, f2, f3, f4, f5, f6⟩ := m
  obtain ⟨p0, fl, ss, pt, ha⟩ := r
  have X0 := B3.start w f0 f1 f2 f3 f4 f5 f6 ⟨p0, fl, ss, pt, ha⟩ a c k i
  have V := rvalid_any ⟨f0, f1, f2, f3, f4, f5, f6⟩ ⟨p0, fl, ss, pt, ha⟩ a c _ (hr.strs.below X0.low) hr.cap hr.nil hr.len
  have HX0 := Lib.hid X0
  by_cases hv : validR ⟨f0, f1, f2, f3, f4, f5, f6⟩ ⟨p0, fl, ss, pt, ha⟩
  case neg =>
    have hre : reachOf ⟨f0, f1, f2, f3, f4, f5, f6⟩ ⟨p0, fl, ss, pt, ha⟩ k i = (R0, 0, 8) := by rw [reachOf, if_pos hv]
    have HV := Lib.hid (show rreachOf ⟨f0, f1, f2, f3, f4, f5, f6⟩ ⟨p0, fl, ss, pt, ha⟩ k i = 0 by rw [rreachOf, hre]; rfl)
    rw [hre]
    rw [decide_eq_false hv] at V
    have HQ := Lib.hid V
    clear V hv X0 hr hre
    unfold Md.val Rb.val at *
    go_enter Try.func32, Try.ntmps32
    go_wp2_with fail
    refine HQ.out.mono ?_
    rintro e w1 ⟨rfl, hb1⟩
    have X1 := HX0.out.next hb1
    have HLo := Lib.hid X1.low
    have HX1 := Lib.hid X1
    obtain ⟨k0, c0, c1, c2, c3, c4⟩ := X1.r
    obtain ⟨m0, m1, m2, m3, m4, m5, m6, m7⟩ := X1.m
    have j0 := X1.e.g0
    have j1 := X1.e.g1
    clear HX0 HQ hb1
    clear X1
    go_wp2
    go_ret2
    exact ⟨by rw [HV.out]; rfl, HLo.out⟩
  rw [decide_eq_true hv] at V
  have HQ := Lib.hid V
  clear V X0
  have HP : ∀ wx, Below w.heap.size w wx → Hid (Calls Try.prog 21 #[(⟨f0, f1, f2, f3, f4, f5, f6⟩ : Md).val, (⟨p0, fl, ss, pt, ha⟩ : Rb).val a c, .agg #[.int .i64 k, .int .i64 i]] wx fun e w' => e = .returned (.tuple #[.int .i64 (posOf ⟨f0, f1, f2, f3, f4, f5, f6⟩ ⟨p0, fl, ss, pt, ha⟩ k i).1, .bool (posOf ⟨f0, f1, f2, f3, f4, f5, f6⟩ ⟨p0, fl, ss, pt, ha⟩ k i).2]) ∧ Below wx.heap.size wx w') := fun wx hb => Lib.hid (rposition_any _ ⟨p0, fl, ss, pt, ha⟩ a c k i wx (hr.strs.below hb) hr.cap hr.nil hr.len hi0 hi1)
  cases fl with
  | true =>
    have hre : reachOf ⟨f0, f1, f2, f3, f4, f5, f6⟩ ⟨p0, true, ss, pt, ha⟩ k i = (R0, 0, 16) := by rw [reachOf, if_neg (not_not_intro hv), if_pos rfl]
    have HV := Lib.hid (show rreachOf ⟨f0, f1, f2, f3, f4, f5, f6⟩ ⟨p0, true, ss, pt, ha⟩ k i = 0 by rw [rreachOf, hre]; rfl)
    rw [hre]
    clear hv hr hre HP
    unfold Md.val Rb.val at *
    go_enter Try.func32, Try.ntmps32
    go_wp2_with fail
    refine HQ.out.mono ?_
    rintro e w1 ⟨rfl, hb1⟩
    have X1 := HX0.out.next hb1
    have HLo := Lib.hid X1.low
    have HX1 := Lib.hid X1
    obtain ⟨k0, c0, c1, c2, c3, c4⟩ := X1.r
    obtain ⟨m0, m1, m2, m3, m4, m5, m6, m7⟩ := X1.m
    have j0 := X1.e.g0
    have j1 := X1.e.g1
    clear HX0 HQ hb1
    clear X1
    go_wp2
    go_ret2
    exact ⟨by rw [HV.out]; rfl, HLo.out⟩
  | false =>
    cases hp : (posOf ⟨f0, f1, f2, f3, f4, f5, f6⟩ ⟨p0, false, ss, pt, ha⟩ k i).2 with
    | false =>
      have hre : reachOf ⟨f0, f1, f2, f3, f4, f5, f6⟩ ⟨p0, false, ss, pt, ha⟩ k i = (R0, 0, 11) := by rw [reachOf, if_neg (not_not_intro hv), if_neg (by simp), if_pos (.inr hp)]
      have HV := Lib.hid (show rreachOf ⟨f0, f1, f2, f3, f4, f5, f6⟩ ⟨p0, false, ss, pt, ha⟩ k i = 0 by rw [rreachOf, hre]; rfl)
      rw [hre]
      rw [hp] at HP
      generalize (posOf ⟨f0, f1, f2, f3, f4, f5, f6⟩ ⟨p0, false, ss, pt, ha⟩ k i).1 = po at HP
      clear hv hr hre hp
      unfold Md.val Rb.val at *
      go_enter Try.func32, Try.ntmps32
      go_wp2_with fail
      refine HQ.out.mono ?_
      rintro e w1 ⟨rfl, hb1⟩
      have X1 := HX0.out.next hb1
      have HLo := Lib.hid X1.low
      have HX1 := Lib.hid X1
      obtain ⟨k0, c0, c1, c2, c3, c4⟩ := X1.r
      obtain ⟨m0, m1, m2, m3, m4, m5, m6, m7⟩ := X1.m
      have j0 := X1.e.g0
      have j1 := X1.e.g1
      clear HX0 HQ hb1
      clear X1
      go_wp2_with fail
      refine (HP _ HLo.out).out.mono ?_
      rintro e w2 ⟨rfl, hb2⟩
      have X2 := HX1.out.next hb2
      have HLo2 := Lib.hid X2.low
      have i0 := X2.e.g0
      have i1 := X2.e.g1
      clear X2 HX1 HP hb2
      go_wp2
      go_ret2
      exact ⟨by rw [HV.out]; rfl, HLo2.out⟩
    | true =>
      by_cases h3 : k = 3
      · have hre : reachOf ⟨f0, f1, f2, f3, f4, f5, f6⟩ ⟨p0, false, ss, pt, ha⟩ k i = (R0, 0, 11) := by rw [reachOf, if_neg (not_not_intro hv), if_neg (by simp), if_pos (.inl h3)]
        have HV := Lib.hid (show rreachOf ⟨f0, f1, f2, f3, f4, f5, f6⟩ ⟨p0, false, ss, pt, ha⟩ k i = 0 by rw [rreachOf, hre]; rfl)
        rw [hre]
        rw [hp] at HP
        generalize (posOf ⟨f0, f1, f2, f3, f4, f5, f6⟩ ⟨p0, false, ss, pt, ha⟩ k i).1 = po at HP
        clear hv hr hre hp
        subst h3
        unfold Md.val Rb.val at *
        go_enter Try.func32, Try.ntmps32
        go_wp2_with fail
        refine HQ.out.mono ?_
        rintro e w1 ⟨rfl, hb1⟩
        have X1 := HX0.out.next hb1
        have HLo := Lib.hid X1.low
        have HX1 := Lib.hid X1
        obtain ⟨k0, c0, c1, c2, c3, c4⟩ := X1.r
        obtain ⟨m0, m1, m2, m3, m4, m5, m6, m7⟩ := X1.m
        have j0 := X1.e.g0
        have j1 := X1.e.g1
        clear HX0 HQ hb1
        clear X1
        go_wp2_with fail
        refine (HP _ HLo.out).out.mono ?_
        rintro e w2 ⟨rfl, hb2⟩
        have X2 := HX1.out.next hb2
        have HLo2 := Lib.hid X2.low
        have i0 := X2.e.g0
        have i1 := X2.e.g1
        clear X2 HX1 HP hb2
        go_wp2
        go_ret2
        exact ⟨by rw [HV.out]; rfl, HLo2.out⟩
      · have hre : reachOf ⟨f0, f1, f2, f3, f4, f5, f6⟩ ⟨p0, false, ss, pt, ha⟩ k i = (⟨(posOf ⟨f0, f1, f2, f3, f4, f5, f6⟩ ⟨p0, false, ss, pt, ha⟩ k i).1, false, ss, pt, ha⟩, travOf ⟨f0, f1, f2, f3, f4, f5, f6⟩ p0 (posOf ⟨f0, f1, f2, f3, f4, f5, f6⟩ ⟨p0, false, ss, pt, ha⟩ k i).1, 0) := by
          rw [reachOf, if_neg (not_not_intro hv), if_neg (by simp), if_neg (by rintro (h | h); exact h3 h; rw [hp] at h; cases h)]
        have HV := Lib.hid (show rreachOf ⟨f0, f1, f2, f3, f4, f5, f6⟩ ⟨p0, false, ss, pt, ha⟩ k i = (posOf ⟨f0, f1, f2, f3, f4, f5, f6⟩ ⟨p0, false, ss, pt, ha⟩ k i).1 by rw [rreachOf, hre]; rfl)
        rw [hre]
        rw [hp] at HP
        have q3 : (k == 3) = false := beq_eq_false_iff_ne.2 h3
        generalize (posOf ⟨f0, f1, f2, f3, f4, f5, f6⟩ ⟨p0, false, ss, pt, ha⟩ k i).1 = po at *
        clear hv hr hre hp h3
        unfold Md.val Rb.val at *
        go_enter Try.func32, Try.ntmps32
        go_wp2_with fail
        refine HQ.out.mono ?_
        rintro e w1 ⟨rfl, hb1⟩
        have X1 := HX0.out.next hb1
        have HLo := Lib.hid X1.low
        have HX1 := Lib.hid X1
        obtain ⟨k0, c0, c1, c2, c3, c4⟩ := X1.r
        obtain ⟨m0, m1, m2, m3, m4, m5, m6, m7⟩ := X1.m
        have j0 := X1.e.g0
        have j1 := X1.e.g1
        clear HX0 HQ hb1
        clear X1
        go_wp2_with fail
        refine (HP _ HLo.out).out.mono ?_
        rintro e w2 ⟨rfl, hb2⟩
        have X2 := HX1.out.next hb2
        have HLo2 := Lib.hid X2.low
        have i0 := X2.e.g0
        have i1 := X2.e.g1
        clear X2 HX1 HP hb2
        go_wp2
        go_ret2
        exact ⟨by rw [HV.out]; rfl, HLo2.out⟩
/-- Two boxes. -/
structure B2 (w : World) (r : Rb) (a : Option Addr) (c : Nat) (k i : Int) (wx : World) : Prop where
  r : Blk wx w.heap.size 26 #[.int .i64 r.pos, .bool r.failed, .slice a r.slots.length c, .string r.port, .string r.hand]
  e : EB (w.heap.size + 1) k i wx
  low : Below w.heap.size w wx
theorem B2.start (w : World) (r : Rb) (a : Option Addr) (c : Nat) (k i : Int) : B2 w r a c k i ((w.alloc (.cells #[.int .i64 r.pos, .bool r.failed, .slice a r.slots.length c, .string r.port, .string r.hand] 26)).alloc (.cells #[.int .i64 k, .int .i64 i] 28)) := by
  have R := (Blk.new w 26 #[.int .i64 r.pos, .bool r.failed, .slice a r.slots.length c, .string r.port, .string r.hand]).alloc (.cells #[.int .i64 k, .int .i64 i] 28)
  have E := EB.start (w.alloc (.cells #[.int .i64 r.pos, .bool r.failed, .slice a r.slots.length c, .string r.port, .string r.hand] 26)) k i
  simp only [World.size_alloc] at E
  exact ⟨R, E, below_alloc (below_alloc (Below.refl _ _) _) _⟩
set_option maxRecDepth 100000 in
set_option maxHeartbeats 1000000 in
theorem rat_any (r : Rb) (a : Option Addr) (c : Nat) (k i : Int) (w : World) (hx : Strs w a r.slots) (hc : r.slots.length ≤ c) (hl : r.slots.length ≤ 1000000) (hk : k = 0 → 0 ≤ i ∧ i.toNat < r.slots.length) :
    Calls Try.prog 33 #[r.val a c, .agg #[.int .i64 k, .int .i64 i]] w fun e w' => e = .returned (.string (atOf r k i)) ∧ Below w.heap.size w w' := by
  obtain ⟨p0, fl, ss, pt, ha⟩ := r
  have X0 := B2.start w ⟨p0, fl, ss, pt, ha⟩ a c k i
  have HLo := Lib.hid X0.low
  by_cases h : k = 0
  · obtain ⟨h0, h1⟩ := hk h
    subst h
    obtain ⟨j, rfl⟩ := Int.eq_ofNat_of_zero_le h0
    have hj : j < ss.length := by simpa using h1
    have HV := Lib.hid (show atOf ⟨p0, fl, ss, pt, ha⟩ 0 (j : Int) = ss[j] by simp [atOf, hj])
    obtain ⟨x, rfl, hcell⟩ := (hx.below X0.low).at hj
    dsimp only at hcell hc hl
    have g1 : (0 : Int) ≤ (j : Int) := by omega
    have g2 : (j : Int) < (ss.length : Int) := by omega
    generalize ss[j] = s at *
    clear X0 hx hk h0 h1
    unfold Rb.val
    go_enter Try.func33, Try.ntmps33
    go_wp2
    go_ret
    exact ⟨by rw [HV.out]; rfl, HLo.out⟩
  · have HV := Lib.hid (show atOf ⟨p0, fl, ss, pt, ha⟩ k i = pt by rw [atOf, if_neg h])
    have q : (k == 0) = false := beq_eq_false_iff_ne.2 h
    clear X0 hx hk h
    unfold Rb.val
    go_enter Try.func33, Try.ntmps33
    go_wp2
    go_ret
    exact ⟨by rw [HV.out]; rfl, HLo.out⟩
end Go.Proofs.Ytpnkaoigpefmiaa
