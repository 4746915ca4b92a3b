/- Valid: the loop over the places. -/
import Derived.Test.YtpnkaoigpefmiaaR14
import Derived.Test.YtpnkaoigpefmiaaR22
import Derived.Maps.OwnIn
import Derived.Maps.Own
import Derived.Test.YtpnkaoigpefmiaaWLast
namespace Go.Proofs.Ytpnkaoigpefmiaa
open Go.RowKit Go.Shelf
open Go.Proofs.YtpnkaoigpefmiaaW.PrintLast
attribute [local go_sem] Oper.semAt_some
set_option linter.unusedVariables false
set_option linter.unusedSimpArgs false

/-- The region goes on. -/
def NormQ (A : Act) (W2 : World) : Exit → Act → World → Prop
  | .normal, a', w' => a' = A ∧ Below W2.heap.size W2 w'
  | _, _, _ => False
set_option maxRecDepth 100000 in
set_option maxHeartbeats 8000000 in
theorem valid_true (m : Md) (r : Rb) (a : Option Addr) (c : Nat) (w : World) (hx : Strs w a r.slots) (hc : r.slots.length ≤ c) (hl : r.slots.length ≤ 1000000) (hm : mok m) (hln : (r.slots.length : Int) = m.slots) (hpo : 0 ≤ r.pos ∧ r.pos ≤ railOf m) (hgs : ∀ x ∈ items r, x.2.2.size ≤ maxLen) :
    Calls Try.prog 16 #[m.val, r.val a c] w fun e w' => e = .returned (.bool (decide (once (allOf r)))) ∧ Below w.heap.size w w' := by
  obtain ⟨f0, f1, f2, f3, f4, f5, f6⟩ := m
  obtain ⟨W2, hW2⟩ : ∃ W2, W2 = ((w.alloc (.cells #[.int .i64 f0, .int .i64 f1, .int .i64 f2, .int .i64 f3, .int .i64 f4, .int .i64 f5, .int .i64 f6] 23)).alloc (.cells #[.int .i64 r.pos, .bool r.failed, .slice a r.slots.length c, .string r.port, .string r.hand] 26)).alloc (.cells #[.bool false] 4) := ⟨_, rfl⟩
  have hb2 : Below w.heap.size w W2 := by rw [hW2]; exact below_alloc (below_alloc (below_alloc (Below.refl _ _) _) _) _
  have M2 : MB w f0 f1 f2 f3 f4 f5 f6 W2 := by rw [hW2]; exact ((MB.start w f0 f1 f2 f3 f4 f5 f6).next (below_alloc (Below.refl _ _) _)).next (below_alloc (Below.refl _ _) _)
  have R2 : RB (w.heap.size + 1) r a c W2 := by
    have := (RB.start (w.alloc (.cells #[.int .i64 f0, .int .i64 f1, .int .i64 f2, .int .i64 f3, .int .i64 f4, .int .i64 f5, .int .i64 f6] 23)) r a c).next (below_alloc (Below.refl _ _) (.cells #[.bool false] 4))
    rw [show (w.alloc (.cells #[.int .i64 f0, .int .i64 f1, .int .i64 f2, .int .i64 f3, .int .i64 f4, .int .i64 f5, .int .i64 f6] 23)).heap.size = w.heap.size + 1 from by simp] at this
    rw [hW2]; exact this
  have O2 : Boxed W2 (w.heap.size + 1 + 1) 4 (.bool false) := by
    have := Boxed.new ((w.alloc (.cells #[.int .i64 f0, .int .i64 f1, .int .i64 f2, .int .i64 f3, .int .i64 f4, .int .i64 f5, .int .i64 f6] 23)).alloc (.cells #[.int .i64 r.pos, .bool r.failed, .slice a r.slots.length c, .string r.port, .string r.hand] 26)) 4 (.bool false)
    simp only [World.size_alloc] at this
    rw [hW2]; exact this
  have hsz : W2.heap.size = w.heap.size + 3 := by rw [hW2]; simp
  have K : ∀ wx, Below W2.heap.size W2 wx → Below W2.heap.size W2 wx ∧ wx.cell? ⟨w.heap.size, 0, none⟩ = some (.int .i64 f0) ∧ wx.cell? ⟨w.heap.size, 1, none⟩ = some (.int .i64 f1) ∧ wx.cell? ⟨w.heap.size, 2, none⟩ = some (.int .i64 f2) ∧ wx.cell? ⟨w.heap.size, 3, none⟩ = some (.int .i64 f3) ∧ wx.cell? ⟨w.heap.size, 4, none⟩ = some (.int .i64 f4) ∧ wx.cell? ⟨w.heap.size, 5, none⟩ = some (.int .i64 f5) ∧ wx.cell? ⟨w.heap.size, 6, none⟩ = some (.int .i64 f6) ∧ wx.cell? ⟨w.heap.size + 1, 0, none⟩ = some (.int .i64 r.pos) ∧ wx.cell? ⟨w.heap.size + 1, 2, none⟩ = some (.slice a r.slots.length c) := fun wx hb => by
    have M := M2.next hb
    have R := R2.next hb
    exact ⟨hb, M.g0, M.g1, M.g2, M.g3, M.g4, M.g5, M.g6, R.g0, R.g2⟩
  have S0 := K W2.drew (Below.refl _ _).drew
  have KK := Lib.hid K
  have I1 : Hid (∀ wx, Below W2.heap.size W2 wx → Calls Try.prog 36 #[.agg #[.int .i64 f0, .int .i64 f1, .int .i64 f2, .int .i64 f3, .int .i64 f4, .int .i64 f5, .int .i64 f6]] wx fun e w' => e = .returned (.bool true) ∧ Below W2.heap.size W2 w') := Lib.hid fun wx hb => (sound_true _ wx hm).mono fun e w' h => ⟨h.1, Below.next hb h.2⟩
  have I2 : Hid (∀ wx, Below W2.heap.size W2 wx → Calls Try.prog 37 #[.agg #[.int .i64 f0, .int .i64 f1, .int .i64 f2, .int .i64 f3, .int .i64 f4, .int .i64 f5, .int .i64 f6]] wx fun e w' => e = .returned (.int .i64 (railOf ⟨f0, f1, f2, f3, f4, f5, f6⟩)) ∧ Below W2.heap.size W2 w') := Lib.hid fun wx hb => (rail_any _ wx hm).mono fun e w' h => ⟨h.1, Below.next hb h.2⟩
  have q1 : ((r.slots.length : Int) != f0) = false := by rw [bne_eq_false_iff_eq]; exact hln
  have q2 : decide (r.pos < 0) = false := decide_eq_false (by omega)
  have q3 : decide (r.pos > railOf ⟨f0, f1, f2, f3, f4, f5, f6⟩) = false := decide_eq_false (by omega)
  generalize railOf ⟨f0, f1, f2, f3, f4, f5, f6⟩ = ra at *
  have HX := Lib.hid hx
  have HM := Lib.hid M2
  have HRb := Lib.hid R2
  clear K M2 R2 hm hln hpo hx
  unfold Md.val Rb.val
  refine (callsIn_wide (n := 8)).1 ?_
  refine callsIn_of_wp_marks Try.func16 rfl trivial ?_ rfl
  refine wpIn_wide.2 ?_
  simp only [Try.ntmps16, List.size_toArray, List.length_cons, List.length_nil, Nat.reduceAdd, Nat.reduceSub, Array.replicate_succ, Array.replicate_zero, List.push_toArray, List.append_toArray, List.nil_append, List.cons_append]
  go_wp2
  rw [← hW2]
  clear hW2
  refine Code.wp_mono (Q := NormQ { tmps := #[(.agg #[.int .i64 f0, .int .i64 f1, .int .i64 f2, .int .i64 f3, .int .i64 f4, .int .i64 f5, .int .i64 f6]), (.agg #[.int .i64 r.pos, .bool r.failed, .slice a r.slots.length c, .string r.port, .string r.hand]), .pointer (some ⟨w.heap.size, 0, none⟩), .pointer (some ⟨w.heap.size + 1, 0, none⟩), .pointer (some ⟨w.heap.size + 1 + 1, 0, none⟩), undef, undef, undef, (.agg #[.int .i64 f0, .int .i64 f1, .int .i64 f2, .int .i64 f3, .int .i64 f4, .int .i64 f5, .int .i64 f6]), .bool true, .bool false, .bool false, .pointer (some ⟨w.heap.size + 1, 2, none⟩), .slice a r.slots.length c, .int .i64 r.slots.length, .pointer (some ⟨w.heap.size, 0, none⟩), .int .i64 f0, .bool false, .bool false, .bool false, .pointer (some ⟨w.heap.size + 1, 0, none⟩), .int .i64 r.pos, .bool false, .bool false, .bool false, .pointer (some ⟨w.heap.size + 1, 0, none⟩), .int .i64 r.pos, (.agg #[.int .i64 f0, .int .i64 f1, .int .i64 f2, .int .i64 f3, .int .i64 f4, .int .i64 f5, .int .i64 f6]), .int .i64 ra, .bool false, .bool false, undef, undef, undef, undef, undef, undef, undef, undef, undef, undef, undef, undef, undef, undef], defers := [] } W2) ?hq ?hreg
  case hreg =>
    refine start_ (n := 23) (S := (fun wx => Below W2.heap.size W2 wx ∧ wx.cell? ⟨w.heap.size, 0, none⟩ = some (.int .i64 f0) ∧ wx.cell? ⟨w.heap.size, 1, none⟩ = some (.int .i64 f1) ∧ wx.cell? ⟨w.heap.size, 2, none⟩ = some (.int .i64 f2) ∧ wx.cell? ⟨w.heap.size, 3, none⟩ = some (.int .i64 f3) ∧ wx.cell? ⟨w.heap.size, 4, none⟩ = some (.int .i64 f4) ∧ wx.cell? ⟨w.heap.size, 5, none⟩ = some (.int .i64 f5) ∧ wx.cell? ⟨w.heap.size, 6, none⟩ = some (.int .i64 f6) ∧ wx.cell? ⟨w.heap.size + 1, 0, none⟩ = some (.int .i64 r.pos) ∧ wx.cell? ⟨w.heap.size + 1, 2, none⟩ = some (.slice a r.slots.length c))) (ds := []) #[false, false, false, false, false, false, false, false, false, false, false, false, false, false, false, false, false, false, false, false, false, false, false] (by kernel_rfl) rfl rfl S0 (fun hHeld => ?_)
    refine take_ (i := 0) (N := some 8) (v := ?_) (a' := ?_) #[true, false, false, false, false, false, false, false, false, false, false, false, false, false, false, false, false, false, false, false, false, false, false] rfl rfl (by kernel_rfl) (fun _ _ _ h => h) (Or.inl ⟨by rfl, ?_⟩) hHeld ?_ ?_
    rotate_left
    · rintro w' ⟨s0, s1, s2, s3, s4, s5, s6, s7, s8, s9⟩
      go_simp
      try with_reducible rfl
    rotate_left
    · simp only [Act.put, List.setIfInBounds_toArray, List.set_cons_zero, List.set_cons_succ]
      rfl
    refine one_ (i := 1) (N := some 9) #[true, true, false, false, false, false, false, false, false, false, false, false, false, false, false, false, false, false, false, false, false, false, false] rfl rfl (by kernel_rfl) (by decide) (fun K hK => ?_)
    go_simp
    refine (I1.out _ hHeld.1).mono ?_
    rintro e w3 ⟨rfl, hb3⟩
    refine hK.out _ _ (KK.out _ hb3) (fun hHeld => ?_)
    clear hK K
    try simp only [Act.put, List.setIfInBounds_toArray, List.set_cons_zero, List.set_cons_succ]
    refine pure_ (i := 2) (N := some 10) (v := ?_) (a' := ?_) #[true, true, true, false, false, false, false, false, false, false, false, false, false, false, false, false, false, false, false, false, false, false, false] rfl rfl (by kernel_rfl) (fun _ _ _ h => h) (Or.inl ⟨by rfl, ?_⟩) ?_ ?_
    rotate_left
    · intro w'
      go_simp
      try with_reducible rfl
    rotate_left
    · simp only [Act.put, List.setIfInBounds_toArray, List.set_cons_zero, List.set_cons_succ]
      rfl
    refine pure_ (i := 3) (N := some 11) (v := ?_) (a' := ?_) #[true, true, true, true, false, false, false, false, false, false, false, false, false, false, false, false, false, false, false, false, false, false, false] rfl rfl (by kernel_rfl) (fun _ _ _ h => h) (Or.inl ⟨by rfl, ?_⟩) ?_ ?_
    rotate_left
    · intro w'
      go_simp
      try with_reducible rfl
    rotate_left
    · simp only [Act.put, List.setIfInBounds_toArray, List.set_cons_zero, List.set_cons_succ]
      rfl
    refine pure_ (i := 4) (N := some 12) (v := ?_) (a' := ?_) #[true, true, true, true, true, false, false, false, false, false, false, false, false, false, false, false, false, false, false, false, false, false, false] rfl rfl (by kernel_rfl) (fun _ _ _ h => h) (Or.inl ⟨by rfl, ?_⟩) ?_ ?_
    rotate_left
    · intro w'
      go_simp
      try with_reducible rfl
    rotate_left
    · simp only [Act.put, List.setIfInBounds_toArray, List.set_cons_zero, List.set_cons_succ]
      rfl
    refine take_ (i := 5) (N := some 13) (v := ?_) (a' := ?_) #[true, true, true, true, true, true, false, false, false, false, false, false, false, false, false, false, false, false, false, false, false, false, false] rfl rfl (by kernel_rfl) (fun _ _ _ h => h) (Or.inl ⟨by rfl, ?_⟩) hHeld ?_ ?_
    rotate_left
    · rintro w' ⟨s0, s1, s2, s3, s4, s5, s6, s7, s8, s9⟩
      go_simp
      try with_reducible rfl
    rotate_left
    · simp only [Act.put, List.setIfInBounds_toArray, List.set_cons_zero, List.set_cons_succ]
      rfl
    refine pure_ (i := 6) (N := some 14) (v := ?_) (a' := ?_) #[true, true, true, true, true, true, true, false, false, false, false, false, false, false, false, false, false, false, false, false, false, false, false] rfl rfl (by kernel_rfl) (fun _ _ _ h => h) (Or.inl ⟨by rfl, ?_⟩) ?_ ?_
    rotate_left
    · intro w'
      go_simp
      try with_reducible rfl
    rotate_left
    · simp only [Act.put, List.setIfInBounds_toArray, List.set_cons_zero, List.set_cons_succ]
      rfl
    refine pure_ (i := 7) (N := some 15) (v := ?_) (a' := ?_) #[true, true, true, true, true, true, true, true, false, false, false, false, false, false, false, false, false, false, false, false, false, false, false] rfl rfl (by kernel_rfl) (fun _ _ _ h => h) (Or.inl ⟨by rfl, ?_⟩) ?_ ?_
    rotate_left
    · intro w'
      go_simp
      try with_reducible rfl
    rotate_left
    · simp only [Act.put, List.setIfInBounds_toArray, List.set_cons_zero, List.set_cons_succ]
      rfl
    refine take_ (i := 8) (N := some 16) (v := ?_) (a' := ?_) #[true, true, true, true, true, true, true, true, true, false, false, false, false, false, false, false, false, false, false, false, false, false, false] rfl rfl (by kernel_rfl) (fun _ _ _ h => h) (Or.inl ⟨by rfl, ?_⟩) hHeld ?_ ?_
    rotate_left
    · rintro w' ⟨s0, s1, s2, s3, s4, s5, s6, s7, s8, s9⟩
      go_simp
      try with_reducible rfl
    rotate_left
    · simp only [Act.put, List.setIfInBounds_toArray, List.set_cons_zero, List.set_cons_succ]
      rfl
    refine pure_ (i := 9) (N := some 17) (v := ?_) (a' := ?_) #[true, true, true, true, true, true, true, true, true, true, false, false, false, false, false, false, false, false, false, false, false, false, false] rfl rfl (by kernel_rfl) (fun _ _ _ h => h) (Or.inl ⟨by rfl, ?_⟩) ?_ ?_
    rotate_left
    · intro w'
      go_simp
      try with_reducible rfl
    rotate_left
    · simp only [Act.put, List.setIfInBounds_toArray, List.set_cons_zero, List.set_cons_succ]
      rfl
    refine pure_ (i := 10) (N := some 18) (v := ?_) (a' := ?_) #[true, true, true, true, true, true, true, true, true, true, true, false, false, false, false, false, false, false, false, false, false, false, false] rfl rfl (by kernel_rfl) (fun _ _ _ h => h) (Or.inl ⟨by rfl, ?_⟩) ?_ ?_
    rotate_left
    · intro w'
      go_simp
      try with_reducible rfl
    rotate_left
    · simp only [Act.put, List.setIfInBounds_toArray, List.set_cons_zero, List.set_cons_succ]
      rfl
    refine pure_ (i := 11) (N := some 19) (v := ?_) (a' := ?_) #[true, true, true, true, true, true, true, true, true, true, true, true, false, false, false, false, false, false, false, false, false, false, false] rfl rfl (by kernel_rfl) (fun _ _ _ h => h) (Or.inl ⟨by rfl, ?_⟩) ?_ ?_
    rotate_left
    · intro w'
      go_simp
      try with_reducible rfl
    rotate_left
    · simp only [Act.put, List.setIfInBounds_toArray, List.set_cons_zero, List.set_cons_succ]
      rfl
    refine pure_ (i := 12) (N := some 20) (v := ?_) (a' := ?_) #[true, true, true, true, true, true, true, true, true, true, true, true, true, false, false, false, false, false, false, false, false, false, false] rfl rfl (by kernel_rfl) (fun _ _ _ h => h) (Or.inl ⟨by rfl, ?_⟩) ?_ ?_
    rotate_left
    · intro w'
      go_simp
      try with_reducible rfl
    rotate_left
    · simp only [Act.put, List.setIfInBounds_toArray, List.set_cons_zero, List.set_cons_succ]
      rfl
    refine take_ (i := 13) (N := some 21) (v := ?_) (a' := ?_) #[true, true, true, true, true, true, true, true, true, true, true, true, true, true, false, false, false, false, false, false, false, false, false] rfl rfl (by kernel_rfl) (fun _ _ _ h => h) (Or.inl ⟨by rfl, ?_⟩) hHeld ?_ ?_
    rotate_left
    · rintro w' ⟨s0, s1, s2, s3, s4, s5, s6, s7, s8, s9⟩
      go_simp
      try with_reducible rfl
    rotate_left
    · simp only [Act.put, List.setIfInBounds_toArray, List.set_cons_zero, List.set_cons_succ]
      rfl
    refine pure_ (i := 14) (N := some 22) (v := ?_) (a' := ?_) #[true, true, true, true, true, true, true, true, true, true, true, true, true, true, true, false, false, false, false, false, false, false, false] rfl rfl (by kernel_rfl) (fun _ _ _ h => h) (Or.inl ⟨by rfl, ?_⟩) ?_ ?_
    rotate_left
    · intro w'
      go_simp
      try with_reducible rfl
    rotate_left
    · simp only [Act.put, List.setIfInBounds_toArray, List.set_cons_zero, List.set_cons_succ]
      rfl
    refine pure_ (i := 15) (N := some 23) (v := ?_) (a' := ?_) #[true, true, true, true, true, true, true, true, true, true, true, true, true, true, true, true, false, false, false, false, false, false, false] rfl rfl (by kernel_rfl) (fun _ _ _ h => h) (Or.inl ⟨by rfl, ?_⟩) ?_ ?_
    rotate_left
    · intro w'
      go_simp
      try with_reducible rfl
    rotate_left
    · simp only [Act.put, List.setIfInBounds_toArray, List.set_cons_zero, List.set_cons_succ]
      rfl
    refine pure_ (i := 16) (N := some 24) (v := ?_) (a' := ?_) #[true, true, true, true, true, true, true, true, true, true, true, true, true, true, true, true, true, false, false, false, false, false, false] rfl rfl (by kernel_rfl) (fun _ _ _ h => h) (Or.inl ⟨by rfl, ?_⟩) ?_ ?_
    rotate_left
    · intro w'
      go_simp
      try with_reducible rfl
    rotate_left
    · simp only [Act.put, List.setIfInBounds_toArray, List.set_cons_zero, List.set_cons_succ]
      rfl
    refine pure_ (i := 17) (N := some 25) (v := ?_) (a' := ?_) #[true, true, true, true, true, true, true, true, true, true, true, true, true, true, true, true, true, true, false, false, false, false, false] rfl rfl (by kernel_rfl) (fun _ _ _ h => h) (Or.inl ⟨by rfl, ?_⟩) ?_ ?_
    rotate_left
    · intro w'
      go_simp
      try with_reducible rfl
    rotate_left
    · simp only [Act.put, List.setIfInBounds_toArray, List.set_cons_zero, List.set_cons_succ]
      rfl
    refine take_ (i := 18) (N := some 26) (v := ?_) (a' := ?_) #[true, true, true, true, true, true, true, true, true, true, true, true, true, true, true, true, true, true, true, false, false, false, false] rfl rfl (by kernel_rfl) (fun _ _ _ h => h) (Or.inl ⟨by rfl, ?_⟩) hHeld ?_ ?_
    rotate_left
    · rintro w' ⟨s0, s1, s2, s3, s4, s5, s6, s7, s8, s9⟩
      go_simp
      try with_reducible rfl
    rotate_left
    · simp only [Act.put, List.setIfInBounds_toArray, List.set_cons_zero, List.set_cons_succ]
      rfl
    refine take_ (i := 19) (N := some 27) (v := ?_) (a' := ?_) #[true, true, true, true, true, true, true, true, true, true, true, true, true, true, true, true, true, true, true, true, false, false, false] rfl rfl (by kernel_rfl) (fun _ _ _ h => h) (Or.inl ⟨by rfl, ?_⟩) hHeld ?_ ?_
    rotate_left
    · rintro w' ⟨s0, s1, s2, s3, s4, s5, s6, s7, s8, s9⟩
      go_simp
      try with_reducible rfl
    rotate_left
    · simp only [Act.put, List.setIfInBounds_toArray, List.set_cons_zero, List.set_cons_succ]
      rfl
    refine one_ (i := 20) (N := some 28) #[true, true, true, true, true, true, true, true, true, true, true, true, true, true, true, true, true, true, true, true, true, false, false] rfl rfl (by kernel_rfl) (by decide) (fun K hK => ?_)
    go_simp
    refine (I2.out _ hHeld.1).mono ?_
    rintro e w4 ⟨rfl, hb4⟩
    refine hK.out _ _ (KK.out _ hb4) (fun hHeld => ?_)
    clear hK K
    try simp only [Act.put, List.setIfInBounds_toArray, List.set_cons_zero, List.set_cons_succ]
    refine pure_ (i := 21) (N := some 29) (v := ?_) (a' := ?_) #[true, true, true, true, true, true, true, true, true, true, true, true, true, true, true, true, true, true, true, true, true, true, false] rfl rfl (by kernel_rfl) (fun _ _ _ h => h) (Or.inl ⟨by rfl, ?_⟩) ?_ ?_
    rotate_left
    · intro w'
      go_simp
      try with_reducible rfl
    rotate_left
    · simp only [Act.put, List.setIfInBounds_toArray, List.set_cons_zero, List.set_cons_succ]
      rfl
    refine pure_ (i := 22) (N := some 30) (v := ?_) (a' := ?_) #[true, true, true, true, true, true, true, true, true, true, true, true, true, true, true, true, true, true, true, true, true, true, true] rfl rfl (by kernel_rfl) (fun _ _ _ h => h) (Or.inl ⟨by rfl, ?_⟩) ?_ ?_
    rotate_left
    · intro w'
      go_simp
      try with_reducible rfl
    rotate_left
    · simp only [Act.put, List.setIfInBounds_toArray, List.set_cons_zero, List.set_cons_succ]
      rfl
    refine done_ (by kernel_rfl) ?_
    exact ⟨rfl, hb4⟩
  intro e a' w4 hq4
  cases e <;> try exact hq4.elim
  obtain ⟨rfl, hb4⟩ := hq4
  have hmm := @run_makeMap Try.prog
  have O3 : Boxed w4 (w.heap.size + 1 + 1) 4 (.bool false) := (hb4.block _ (by omega)).trans O2
  have R4 := (HRb.out.next hb4).next (below_alloc (below_alloc (Below.refl _ _) (.map #[] 0)) (.cells #[.map (some w4.heap.size)] 60))
  have g0 := R4.g0
  have g1 := R4.g1
  have g2 := R4.g2
  have g3 := R4.g3
  have g4 := R4.g4
  have PL := fun wx => Lib.hid ((callsIn_wide (n := 8)).1 (places_in Fence.wide 8 trivial rfl r a c wx))
  unfold Rb.val at PL
  go_wp2_with fail
  refine (PL _).out.mono ?_
  rintro e w5 ⟨rfl, rfl⟩
  go_wp2
  refine (wpIn_wide (n := 8)).1 ?_
  have s4 : W2.heap.size ≤ w4.heap.size := hb4.size
  obtain ⟨W0, hW0⟩ : ∃ W0, ((w4.alloc (.map #[] 0)).alloc (.cells #[.map (some w4.heap.size)] 60)).alloc (.cells #[.int .i64 r.pos, .bool r.failed, .slice a r.slots.length c, .string r.port, .string r.hand] 26) = W0 := ⟨_, rfl⟩
  have hB0 : Below w4.heap.size w4 W0 := by rw [← hW0]; exact below_alloc (below_alloc (below_alloc (Below.refl _ _) _) _) _
  have hs0 : W0.heap.size = w4.heap.size + 3 := by rw [← hW0]; simp
  have bR : RB (w4.heap.size + 1 + 1) r a c W0 := by
    have := RB.start ((w4.alloc (.map #[] 0)).alloc (.cells #[.map (some w4.heap.size)] 60)) r a c
    simp only [World.size_alloc] at this
    rw [← hW0]; exact this
  have bM : Boxed W0 (w4.heap.size + 1) 60 (.map (some w4.heap.size)) := by
    have := (Boxed.new (w4.alloc (.map #[] 0)) 60 (.map (some w4.heap.size))).alloc (.cells #[.int .i64 r.pos, .bool r.failed, .slice a r.slots.length c, .string r.port, .string r.hand] 26)
    simp only [World.size_alloc] at this
    rw [← hW0]; exact this
  have hown : W0.ownsMap Try.prog 9 (plainElem Try.prog 4) w4.heap.size 0 (seenD []) := by
    have := ((World.ownsMap_made (H := Unit) w4 Try.prog 9 (plainElem Try.prog 4)).alloc (.cells #[.map (some w4.heap.size)] 60)).alloc (.cells #[.int .i64 r.pos, .bool r.failed, .slice a r.slots.length c, .string r.port, .string r.hand] 26)
    rw [← hW0]; exact this
  have hxs : Strs W0 a r.slots := (HX.out.below (Below.next (Below.next hb2 hb4) hB0))
  have O0 : Boxed W0 (w.heap.size + 1 + 1) 4 (.bool false) := (hB0.block _ (by omega)).trans O3
  rw [hW0]
  clear hW0 PL g0 g1 g2 g3 g4 R4 O3
  have hbl : ∀ x, a = some x → r.slots ≠ [] → x.block < w.heap.size := fun x e hne => Vals.lt HX.out x e (by simpa using hne)
  have hsw := hb2.size
  refine wpIn_rangeFunc_ownG (F := Fence.wide) (n := 8) rfl (by omega) (gf := 45) (lb := #[.pointer (some ⟨w4.heap.size + 1 + 1, 0, none⟩)]) rfl trivial (enters_of Try.func45 (by kernel_rfl) rfl)
    (places_stopsG Fence.wide 7 trivial rfl (by omega) (w4.heap.size + 1 + 1) r a c W0 hl hc (KpV w4.heap.size W0.heap.size) KpV.refl KpV.trans
      (fun X Y h j v hv => h.cell (p := ⟨w4.heap.size + 1 + 1, j, none⟩) (by show w4.heap.size + 1 + 1 < _; omega) (by show w4.heap.size + 1 + 1 ≠ _; omega) hv)
      (fun X Y h x k v hne e hv => h.cell (by rw [add_block]; have := hbl x e hne; omega) (by rw [add_block]; have := hbl x e hne; omega) hv) bR hxs hgs)
    KpV.trans (fun W l o o' h1 h2 h3 h4 => KpV.of_grownBy (grownBy_putObj' W l o') (fun j e => by cases e; exact .inr h1)) (Below.refl _ _) (fun _ => rfl)
    (fun pre W => Nd pre ∧ W.ownsMap Try.prog 9 (plainElem (H := Unit) Try.prog 4) w4.heap.size pre.length (seenD pre) ∧ Boxed W (w4.heap.size + 1) 60 (.map (some w4.heap.size)) ∧ Boxed W (w.heap.size + 1 + 1) 4 (.bool false) ∧ Below w4.heap.size w4 W)
    (fun cd pre W => (cd = .ret ∧ ∃ q x, pre = q ++ [x] ∧ x.1.2.2 ≠ E0 ∧ ∃ y ∈ q, y.1.2.2 = x.1.2.2) ∧ Boxed W (w.heap.size + 1 + 1) 4 (.bool false) ∧ Below w.heap.size w W)
    (OwnFrom.and (ownFrom_pure _ _) (OwnFrom.and (fun s A B row hs hg hr => hs.kept hg (fun e => by have := (hr _ e.symm).1; omega)) (OwnFrom.and (Own.from (boxed_own _ _ _) _) (OwnFrom.and (Own.from (boxed_own _ _ _) _) (ownFrom_below (Nat.le_refl _) (by omega))))))
    (fun cd => OwnFrom.and (ownFrom_pure _ _) (OwnFrom.and (Own.from (boxed_own _ _ _) _) (ownFrom_below (Nat.le_refl _) (by omega))))
    ⟨nd_nil, hown, bM, O0, hB0⟩
    (fun x => { tmps := #[(.agg #[.int .i64 f0, .int .i64 f1, .int .i64 f2, .int .i64 f3, .int .i64 f4, .int .i64 f5, .int .i64 f6]), (.agg #[.int .i64 r.pos, .bool r.failed, .slice a r.slots.length c, .string r.port, .string r.hand]), .pointer (some ⟨w.heap.size, 0, none⟩), .pointer (some ⟨w.heap.size + 1, 0, none⟩), .pointer (some ⟨w.heap.size + 1 + 1, 0, none⟩), .pointer (some ⟨w4.heap.size + 1, 0, none⟩), undef, .string x.1.2.2, (.agg #[.int .i64 f0, .int .i64 f1, .int .i64 f2, .int .i64 f3, .int .i64 f4, .int .i64 f5, .int .i64 f6]), .bool true, .bool false, .bool false, .pointer (some ⟨w.heap.size + 1, 2, none⟩), .slice a r.slots.length c, .int .i64 r.slots.length, .pointer (some ⟨w.heap.size, 0, none⟩), .int .i64 f0, .bool false, .bool false, .bool false, .pointer (some ⟨w.heap.size + 1, 0, none⟩), .int .i64 r.pos, .bool false, .bool false, .bool false, .pointer (some ⟨w.heap.size + 1, 0, none⟩), .int .i64 r.pos, (.agg #[.int .i64 f0, .int .i64 f1, .int .i64 f2, .int .i64 f3, .int .i64 f4, .int .i64 f5, .int .i64 f6]), .int .i64 ra, .bool false, .bool false, .map (some w4.heap.size), (.agg #[.int .i64 r.pos, .bool r.failed, .slice a r.slots.length c, .string r.port, .string r.hand]), .func (.func 45) #[] #[.pointer (some ⟨w4.heap.size + 1 + 1, 0, none⟩)], .agg #[.int .i64 x.1.1, .int .i64 x.1.2.1], .string x.1.2.2, undef, undef, undef, undef, undef, undef, undef, undef, undef], defers := [] }) ?assign ?body ?done ?stop
  case assign =>
    intro l x W K hK
    simp only [encIt]
    gi_wp2
    exact hK
  case body =>
    rintro l pre x W ⟨hp, hown, bm, bo, hB1⟩ hlt
    obtain ⟨L1, L2⟩ := seen_look hown x.1.2.2 x.2
    have hkey := WideMaps.keyOf_string_mk Try.underlying9 x.2
    have c1 := bm.cell
    have c2 := bo.cell
    have c3 := bo.frozen
    by_cases hx : x.1.2.2 = E0
    · have HN := Lib.hid (nd_snoc hp (x := x) (fun h => absurd hx h))
      have q5 : (!x.1.2.2.toList.isEmpty) = false := by rw [hx, ByteArray.toList_eq]; rfl
      have q4 : x.1.2.2.toList = [] := by rw [hx, ByteArray.toList_eq]; rfl
      clear L1 L2 hp hx
      generalize hs : x.1.2.2 = s at *
      have HS := Lib.hid hs
      clear hs
      gi_wp2_with (gi_at_mapUpdate; refine wpListIn_mapUpdate_own _ rfl _ _ _ 60 rfl 9 4 (Maps.string_keyed Try.underlying9) Try.underlying60 _ w4.heap.size pre.length _ rfl hown (by unfold maxLen; omega) _ _ _ rfl rfl hkey _ [] (plainElem_bool Try.underlying4 true) ?_; intro w1 hown1 hgrow1)
      obtain ⟨es, ck, hh, _⟩ := hown
      exact ⟨KeepsFrom.of_grownBy hgrow1 (fun j e => by cases e; omega), KpV.of_grownBy hgrow1 (fun j e => by cases e; exact .inl rfl), HN.out, by rw [seenD_snoc, List.length_append, HS.out]; exact hown1, bm.kept hgrow1 (by simp), bo.kept hgrow1 (by intro e; injection e with e; omega), hB1.grown hgrow1 hB1.size (fun k e => by cases e; exact Nat.le_refl _)⟩
    · by_cases hse : ∃ y ∈ pre, y.1.2.2 = x.1.2.2
      · have hL := L1 hse
        have HP := Lib.hid (And.intro hx hse)
        have q5 := ne_isEmpty hx
        clear L1 L2 hp hx hse
        generalize hs : x.1.2.2 = s at *
        have HS := Lib.hid hs
        clear hs
        gi_wp2
        exact ⟨(KeepsOthers.setCell _ _ _).from _, ⟨rfl, pre, x, rfl, by rw [HS.out]; exact HP.out.1, by rw [HS.out]; exact HP.out.2⟩, bo.set _, (Below.next (Below.next hb2 hb4) hB1).setCell (by show w.heap.size ≤ w.heap.size + 1 + 1; omega) _⟩
      · have hL := L2 hse
        have HN := Lib.hid (nd_snoc hp (x := x) (fun h y hy e => hse ⟨y, hy, e⟩))
        have q5 := ne_isEmpty hx
        clear L1 L2 hp hx hse
        generalize hs : x.1.2.2 = s at *
        have HS := Lib.hid hs
        clear hs
        gi_wp2_with (gi_at_mapUpdate; refine wpListIn_mapUpdate_own _ rfl _ _ _ 60 rfl 9 4 (Maps.string_keyed Try.underlying9) Try.underlying60 _ w4.heap.size pre.length _ rfl hown (by unfold maxLen; omega) _ _ _ rfl rfl hkey _ [] (plainElem_bool Try.underlying4 true) ?_; intro w1 hown1 hgrow1)
        obtain ⟨es, ck, hh, _⟩ := hown
        exact ⟨KeepsFrom.of_grownBy hgrow1 (fun j e => by cases e; omega), KpV.of_grownBy hgrow1 (fun j e => by cases e; exact .inl rfl), HN.out, by rw [seenD_snoc, List.length_append, HS.out]; exact hown1, bm.kept hgrow1 (by simp), bo.kept hgrow1 (by intro e; injection e with e; omega), hB1.grown hgrow1 hB1.size (fun k e => by cases e; exact Nat.le_refl _)⟩
  case done =>
    rintro D zs W hD hzs ⟨hp, hown, bm, bo, hB1⟩ hK
    have HV := Lib.hid (nd_once hp hzs)
    clear hp hzs
    have c2 := bo.cell
    have c3 := bo.frozen
    go_wp2
    have hK' := (KeepsOthers.setCell W ⟨w.heap.size + 1 + 1, 0, none⟩ (.bool true)).same D _ hK rfl
    have t6 := bo.set (.bool true)
    refine ⟨by simp, .inl ⟨_, _, rfl, run_takeDeferred hK', ?_⟩⟩
    have k2 := cell_kept t6.cell (grownBy_putObj' _ D (.deferred none)) (fun r e => by cases e; exact ⟨_, hK', rfl⟩)
    have hbw : Below w.heap.size w (W.setCell ⟨w.heap.size + 1 + 1, 0, none⟩ (.bool true)) := (Below.next (Below.next hb2 hb4) hB1).setCell (by show w.heap.size ≤ w.heap.size + 1 + 1; omega) _
    refine ⟨.bool true, ?_, by rw [decide_eq_true HV.out], hbw.trans (belowK_b (w := w) (Nat.le_refl _) _ D _ _ (by omega) hK' rfl rfl)⟩
    simp [results, Try.results16, Try.f16, go_sem, k2]
  case stop =>
    rintro D cd pre W hD hpre ⟨⟨rfl, q, x, rfl, e1, e2⟩, bo, hB1⟩ hK
    have HV := Lib.hid (twice_not hpre e1 e2)
    clear e1 e2
    gi_wp2
    refine ⟨by simp, .inl ⟨_, _, rfl, run_takeDeferred hK, ?_⟩⟩
    have k2 := cell_kept bo.cell (grownBy_putObj' _ D (.deferred none)) (fun r e => by cases e; exact ⟨_, hK, rfl⟩)
    refine ⟨.bool false, ?_, by rw [decide_eq_false HV.out], hB1.trans (belowK_b (w := w) (Nat.le_refl _) W D _ _ (by omega) hK rfl rfl)⟩
    simp [results, Try.results16, Try.f16, go_sem, k2]
end Go.Proofs.Ytpnkaoigpefmiaa
