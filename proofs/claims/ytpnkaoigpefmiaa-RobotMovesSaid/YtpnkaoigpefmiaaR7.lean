/- Valid in the reference. -/
import Derived.Test.YtpnkaoigpefmiaaR6
import Derived.Test.YtpnkaoigpefmiaaWLast
namespace Go.Proofs.Ytpnkaoigpefmiaa
open Go.RowKit
open Go.Proofs.YtpnkaoigpefmiaaW.PrintLast
set_option linter.unusedVariables false
set_option linter.unusedSimpArgs false

theorem info9 : (Try.prog.info? 9).map (fun i => (i.zero, i.size, i.bytes)) = some (some (.string E0), 1, 16) := by kernel_rfl
theorem strs_oneCell (ss : List ByteArray) : ∀ u ∈ ss.map Value.string, u.oneCell' = true := by
  intro u hu
  obtain ⟨s, _, rfl⟩ := List.mem_map.1 hu
  rfl
theorem cell_two_new (w : World) (u v : Value) (t : TypeId) : ∀ j x, [u, v][j]? = some x → (w.alloc (.cells #[u, v] t)).cell? ((⟨w.heap.size, 0, none⟩ : Addr).add j) = some x := by
  intro j x h
  rw [add_at, World.cell?_alloc_mark]
  match j, h with
  | 0, h => simpa using h
  | 1, h => simpa using h
/-- What slots, port and hand hold. -/
def allOf (r : Rb) : List ByteArray := r.slots ++ [r.port, r.hand]
/-- No barcode twice. -/
def once (l : List ByteArray) : Prop := ∀ i (h : i < l.length) k (h2 : k < i), l[i] ≠ E0 → l[i] ≠ l[k]
structure validR (m : Md) (r : Rb) : Prop where
  mok : mok m
  len : (r.slots.length : Int) = m.slots
  pos : 0 ≤ r.pos ∧ r.pos ≤ railOf m
  one : once (allOf r)
noncomputable instance (m : Md) (r : Rb) : Decidable (validR m r) := Classical.propDecidable _
noncomputable instance (l : List ByteArray) : Decidable (once l) := Classical.propDecidable _
set_option maxRecDepth 100000 in
set_option maxHeartbeats 8000000 in
theorem rvalid_main (m : Md) (r : Rb) (a : Option Addr) (c : Nat) (w : World) (hx : Strs w a r.slots) (hc : r.slots.length ≤ c) (hnil : a = none → c = 0) (hl : r.slots.length ≤ 1000000) (hm : mok m) (hln : (r.slots.length : Int) = m.slots) (hpo : 0 ≤ r.pos ∧ r.pos ≤ railOf m) :
    Calls Try.prog 26 #[m.val, r.val a c] w fun e w' => e = .returned (.bool (decide (once (allOf r)))) ∧ Below w.heap.size w w' := by
  obtain ⟨f0, f1, f2, f3, f4, f5, f6⟩ := m
  have hb1 : Below w.heap.size w (w.alloc (.cells #[.int .i64 f0, .int .i64 f1, .int .i64 f2, .int .i64 f3, .int .i64 f4, .int .i64 f5, .int .i64 f6] 23)) := below_alloc (Below.refl _ _) _
  obtain ⟨W2, hW2⟩ : ∃ W2, W2 = (w.alloc (.cells #[.int .i64 f0, .int .i64 f1, .int .i64 f2, .int .i64 f3, .int .i64 f4, .int .i64 f5, .int .i64 f6] 23)).alloc (.cells #[.int .i64 r.pos, .bool r.failed, .slice a r.slots.length c, .string r.port, .string r.hand] 26) := ⟨_, rfl⟩
  have hb2 : Below w.heap.size w W2 := by rw [hW2]; exact below_alloc hb1 _
  have M2 : MB w f0 f1 f2 f3 f4 f5 f6 W2 := by rw [hW2]; exact (MB.start w f0 f1 f2 f3 f4 f5 f6).next (below_alloc (Below.refl _ _) _)
  have R2 : RB (w.heap.size + 1) r a c W2 := by
    have := RB.start (w.alloc (.cells #[.int .i64 f0, .int .i64 f1, .int .i64 f2, .int .i64 f3, .int .i64 f4, .int .i64 f5, .int .i64 f6] 23)) r a c
    rw [show (w.alloc (.cells #[.int .i64 f0, .int .i64 f1, .int .i64 f2, .int .i64 f3, .int .i64 f4, .int .i64 f5, .int .i64 f6] 23)).heap.size = w.heap.size + 1 from by simp] at this
    rw [hW2]; exact this
  have K : ∀ wx, Below W2.heap.size W2 wx → Below W2.heap.size W2 wx ∧ wx.cell? ⟨w.heap.size, 0, none⟩ = some (.int .i64 f0) ∧ wx.cell? ⟨w.heap.size, 1, none⟩ = some (.int .i64 f1) ∧ wx.cell? ⟨w.heap.size, 2, none⟩ = some (.int .i64 f2) ∧ wx.cell? ⟨w.heap.size, 3, none⟩ = some (.int .i64 f3) ∧ wx.cell? ⟨w.heap.size, 4, none⟩ = some (.int .i64 f4) ∧ wx.cell? ⟨w.heap.size, 5, none⟩ = some (.int .i64 f5) ∧ wx.cell? ⟨w.heap.size, 6, none⟩ = some (.int .i64 f6) ∧ wx.cell? ⟨w.heap.size + 1, 0, none⟩ = some (.int .i64 r.pos) ∧ wx.cell? ⟨w.heap.size + 1, 2, none⟩ = some (.slice a r.slots.length c) := fun wx hb => by
    have M := M2.next hb
    have R := R2.next hb
    exact ⟨hb, M.g0, M.g1, M.g2, M.g3, M.g4, M.g5, M.g6, R.g0, R.g2⟩
  have S0 := K W2.drew (Below.refl _ _).drew
  have KK := Lib.hid K
  have I1 : Hid (∀ wx, Below W2.heap.size W2 wx → Calls Try.prog 41 #[.agg #[.int .i64 f0, .int .i64 f1, .int .i64 f2, .int .i64 f3, .int .i64 f4, .int .i64 f5, .int .i64 f6]] wx fun e w' => e = .returned (.bool true) ∧ Below W2.heap.size W2 w') := Lib.hid fun wx hb => (rmodel_true _ wx hm).mono fun e w' h => ⟨h.1, Below.next hb h.2⟩
  have q1 : ((r.slots.length : Int) != f0) = false := by rw [bne_eq_false_iff_eq]; exact hln
  have I2 : Hid (∀ wx, Below W2.heap.size W2 wx → Calls Try.prog 42 #[.agg #[.int .i64 f0, .int .i64 f1, .int .i64 f2, .int .i64 f3, .int .i64 f4, .int .i64 f5, .int .i64 f6]] wx fun e w' => e = .returned (.int .i64 (railOf ⟨f0, f1, f2, f3, f4, f5, f6⟩)) ∧ Below W2.heap.size W2 w') := Lib.hid fun wx hb => (rrail_any _ wx hm).mono fun e w' h => ⟨h.1, Below.next hb h.2⟩
  clear K hm hln
  generalize railOf ⟨f0, f1, f2, f3, f4, f5, f6⟩ = ra at *
  have I3 : Hid (∀ wx, Below W2.heap.size W2 wx → Calls Try.prog 39 #[.int .i64 r.pos, .int .i64 0, .int .i64 ra] wx fun e w' => e = .returned (.bool true) ∧ Below W2.heap.size W2 w') := Lib.hid fun wx hb => (in39_true _ _ _ wx hpo).mono fun e w' h => ⟨h.1, by rw [h.2]; exact hb⟩
  clear hpo
  obtain ⟨i0, hi, hz0, hz1, hz2⟩ := info_parts info9
  have HR := Lib.hid R2
  have HX := Lib.hid hx
  have HH := Lib.hid hb2
  clear M2 R2
  unfold Md.val Rb.val
  go_enter Try.func26, Try.ntmps26
  go_wp2
  rw [← hW2]
  clear hW2 hx
  refine start_ (n := 19) (S := (fun wx => Below W2.heap.size W2 wx ∧ wx.cell? ⟨w.heap.size, 0, none⟩ = some (.int .i64 f0) ∧ wx.cell? ⟨w.heap.size, 1, none⟩ = some (.int .i64 f1) ∧ wx.cell? ⟨w.heap.size, 2, none⟩ = some (.int .i64 f2) ∧ wx.cell? ⟨w.heap.size, 3, none⟩ = some (.int .i64 f3) ∧ wx.cell? ⟨w.heap.size, 4, none⟩ = some (.int .i64 f4) ∧ wx.cell? ⟨w.heap.size, 5, none⟩ = some (.int .i64 f5) ∧ wx.cell? ⟨w.heap.size, 6, none⟩ = some (.int .i64 f6) ∧ wx.cell? ⟨w.heap.size + 1, 0, none⟩ = some (.int .i64 r.pos) ∧ wx.cell? ⟨w.heap.size + 1, 2, none⟩ = some (.slice a r.slots.length c))) (ds := []) #[false, false, false, false, false, false, false, false, false, false, false, false, false, false, false, false, false, false, false] (by kernel_rfl) rfl rfl S0 (fun hHeld => ?_)
  refine take_ (i := 0) (N := some 8) (v := ?_) (a' := ?_) #[true, false, false, false, false, false, false, false, false, false, false, false, false, false, false, false, false, false, false] rfl rfl (by kernel_rfl) (fun _ _ _ h => h) (Or.inl ⟨by rfl, ?_⟩) hHeld ?_ ?_
  rotate_left
  · rintro w' ⟨s0, s1, s2, s3, s4, s5, s6, s7, s8, s9⟩
    go_simp
    try with_reducible rfl
  rotate_left
  · simp only [Act.put, List.setIfInBounds_toArray, List.set_cons_zero, List.set_cons_succ]
    rfl
  refine one_ (i := 1) (N := some 9) #[true, true, false, false, false, false, false, false, false, false, false, false, false, false, false, false, false, false, false] rfl rfl (by kernel_rfl) (by decide) (fun K hK => ?_)
  go_simp
  refine (I1.out _ hHeld.1).mono ?_
  rintro e w3 ⟨rfl, hb3⟩
  refine hK.out _ _ (KK.out _ hb3) (fun hHeld => ?_)
  clear hK K
  try simp only [Act.put, List.setIfInBounds_toArray, List.set_cons_zero, List.set_cons_succ]
  refine pure_ (i := 2) (N := some 10) (v := ?_) (a' := ?_) #[true, true, true, false, false, false, false, false, false, false, false, false, false, false, false, false, false, false, false] rfl rfl (by kernel_rfl) (fun _ _ _ h => h) (Or.inl ⟨by rfl, ?_⟩) ?_ ?_
  rotate_left
  · intro w'
    go_simp
    try with_reducible rfl
  rotate_left
  · simp only [Act.put, List.setIfInBounds_toArray, List.set_cons_zero, List.set_cons_succ]
    rfl
  refine pure_ (i := 3) (N := some 11) (v := ?_) (a' := ?_) #[true, true, true, true, false, false, false, false, false, false, false, false, false, false, false, false, false, false, false] rfl rfl (by kernel_rfl) (fun _ _ _ h => h) (Or.inl ⟨by rfl, ?_⟩) ?_ ?_
  rotate_left
  · intro w'
    go_simp
    try with_reducible rfl
  rotate_left
  · simp only [Act.put, List.setIfInBounds_toArray, List.set_cons_zero, List.set_cons_succ]
    rfl
  refine pure_ (i := 4) (N := some 12) (v := ?_) (a' := ?_) #[true, true, true, true, true, false, false, false, false, false, false, false, false, false, false, false, false, false, false] rfl rfl (by kernel_rfl) (fun _ _ _ h => h) (Or.inl ⟨by rfl, ?_⟩) ?_ ?_
  rotate_left
  · intro w'
    go_simp
    try with_reducible rfl
  rotate_left
  · simp only [Act.put, List.setIfInBounds_toArray, List.set_cons_zero, List.set_cons_succ]
    rfl
  refine take_ (i := 5) (N := some 13) (v := ?_) (a' := ?_) #[true, true, true, true, true, true, false, false, false, false, false, false, false, false, false, false, false, false, false] rfl rfl (by kernel_rfl) (fun _ _ _ h => h) (Or.inl ⟨by rfl, ?_⟩) hHeld ?_ ?_
  rotate_left
  · rintro w' ⟨s0, s1, s2, s3, s4, s5, s6, s7, s8, s9⟩
    go_simp
    try with_reducible rfl
  rotate_left
  · simp only [Act.put, List.setIfInBounds_toArray, List.set_cons_zero, List.set_cons_succ]
    rfl
  refine pure_ (i := 6) (N := some 14) (v := ?_) (a' := ?_) #[true, true, true, true, true, true, true, false, false, false, false, false, false, false, false, false, false, false, false] rfl rfl (by kernel_rfl) (fun _ _ _ h => h) (Or.inl ⟨by rfl, ?_⟩) ?_ ?_
  rotate_left
  · intro w'
    go_simp
    try with_reducible rfl
  rotate_left
  · simp only [Act.put, List.setIfInBounds_toArray, List.set_cons_zero, List.set_cons_succ]
    rfl
  refine pure_ (i := 7) (N := some 15) (v := ?_) (a' := ?_) #[true, true, true, true, true, true, true, true, false, false, false, false, false, false, false, false, false, false, false] rfl rfl (by kernel_rfl) (fun _ _ _ h => h) (Or.inl ⟨by rfl, ?_⟩) ?_ ?_
  rotate_left
  · intro w'
    go_simp
    try with_reducible rfl
  rotate_left
  · simp only [Act.put, List.setIfInBounds_toArray, List.set_cons_zero, List.set_cons_succ]
    rfl
  refine take_ (i := 8) (N := some 16) (v := ?_) (a' := ?_) #[true, true, true, true, true, true, true, true, true, false, false, false, false, false, false, false, false, false, false] rfl rfl (by kernel_rfl) (fun _ _ _ h => h) (Or.inl ⟨by rfl, ?_⟩) hHeld ?_ ?_
  rotate_left
  · rintro w' ⟨s0, s1, s2, s3, s4, s5, s6, s7, s8, s9⟩
    go_simp
    try with_reducible rfl
  rotate_left
  · simp only [Act.put, List.setIfInBounds_toArray, List.set_cons_zero, List.set_cons_succ]
    rfl
  refine pure_ (i := 9) (N := some 17) (v := ?_) (a' := ?_) #[true, true, true, true, true, true, true, true, true, true, false, false, false, false, false, false, false, false, false] rfl rfl (by kernel_rfl) (fun _ _ _ h => h) (Or.inl ⟨by rfl, ?_⟩) ?_ ?_
  rotate_left
  · intro w'
    go_simp
    try with_reducible rfl
  rotate_left
  · simp only [Act.put, List.setIfInBounds_toArray, List.set_cons_zero, List.set_cons_succ]
    rfl
  refine pure_ (i := 10) (N := some 18) (v := ?_) (a' := ?_) #[true, true, true, true, true, true, true, true, true, true, true, false, false, false, false, false, false, false, false] rfl rfl (by kernel_rfl) (fun _ _ _ h => h) (Or.inl ⟨by rfl, ?_⟩) ?_ ?_
  rotate_left
  · intro w'
    go_simp
    try with_reducible rfl
  rotate_left
  · simp only [Act.put, List.setIfInBounds_toArray, List.set_cons_zero, List.set_cons_succ]
    rfl
  refine pure_ (i := 11) (N := some 19) (v := ?_) (a' := ?_) #[true, true, true, true, true, true, true, true, true, true, true, true, false, false, false, false, false, false, false] rfl rfl (by kernel_rfl) (fun _ _ _ h => h) (Or.inl ⟨by rfl, ?_⟩) ?_ ?_
  rotate_left
  · intro w'
    go_simp
    try with_reducible rfl
  rotate_left
  · simp only [Act.put, List.setIfInBounds_toArray, List.set_cons_zero, List.set_cons_succ]
    rfl
  refine pure_ (i := 12) (N := some 20) (v := ?_) (a' := ?_) #[true, true, true, true, true, true, true, true, true, true, true, true, true, false, false, false, false, false, false] rfl rfl (by kernel_rfl) (fun _ _ _ h => h) (Or.inl ⟨by rfl, ?_⟩) ?_ ?_
  rotate_left
  · intro w'
    go_simp
    try with_reducible rfl
  rotate_left
  · simp only [Act.put, List.setIfInBounds_toArray, List.set_cons_zero, List.set_cons_succ]
    rfl
  refine take_ (i := 13) (N := some 21) (v := ?_) (a' := ?_) #[true, true, true, true, true, true, true, true, true, true, true, true, true, true, false, false, false, false, false] rfl rfl (by kernel_rfl) (fun _ _ _ h => h) (Or.inl ⟨by rfl, ?_⟩) hHeld ?_ ?_
  rotate_left
  · rintro w' ⟨s0, s1, s2, s3, s4, s5, s6, s7, s8, s9⟩
    go_simp
    try with_reducible rfl
  rotate_left
  · simp only [Act.put, List.setIfInBounds_toArray, List.set_cons_zero, List.set_cons_succ]
    rfl
  refine take_ (i := 14) (N := some 22) (v := ?_) (a' := ?_) #[true, true, true, true, true, true, true, true, true, true, true, true, true, true, true, false, false, false, false] rfl rfl (by kernel_rfl) (fun _ _ _ h => h) (Or.inl ⟨by rfl, ?_⟩) hHeld ?_ ?_
  rotate_left
  · rintro w' ⟨s0, s1, s2, s3, s4, s5, s6, s7, s8, s9⟩
    go_simp
    try with_reducible rfl
  rotate_left
  · simp only [Act.put, List.setIfInBounds_toArray, List.set_cons_zero, List.set_cons_succ]
    rfl
  refine one_ (i := 15) (N := some 23) #[true, true, true, true, true, true, true, true, true, true, true, true, true, true, true, true, false, false, false] rfl rfl (by kernel_rfl) (by decide) (fun K hK => ?_)
  go_simp
  refine (I2.out _ hHeld.1).mono ?_
  rintro e w4 ⟨rfl, hb4⟩
  refine hK.out _ _ (KK.out _ hb4) (fun hHeld => ?_)
  clear hK K
  try simp only [Act.put, List.setIfInBounds_toArray, List.set_cons_zero, List.set_cons_succ]
  refine one_ (i := 16) (N := some 24) #[true, true, true, true, true, true, true, true, true, true, true, true, true, true, true, true, true, false, false] rfl rfl (by kernel_rfl) (by decide) (fun K hK => ?_)
  go_simp
  refine (I3.out _ hHeld.1).mono ?_
  rintro e w5 ⟨rfl, hb5⟩
  refine hK.out _ _ (KK.out _ hb5) (fun hHeld => ?_)
  clear hK K
  try simp only [Act.put, List.setIfInBounds_toArray, List.set_cons_zero, List.set_cons_succ]
  refine pure_ (i := 17) (N := some 25) (v := ?_) (a' := ?_) #[true, true, true, true, true, true, true, true, true, true, true, true, true, true, true, true, true, true, false] rfl rfl (by kernel_rfl) (fun _ _ _ h => h) (Or.inl ⟨by rfl, ?_⟩) ?_ ?_
  rotate_left
  · intro w'
    go_simp
    try with_reducible rfl
  rotate_left
  · simp only [Act.put, List.setIfInBounds_toArray, List.set_cons_zero, List.set_cons_succ]
    rfl
  refine pure_ (i := 18) (N := some 26) (v := ?_) (a' := ?_) #[true, true, true, true, true, true, true, true, true, true, true, true, true, true, true, true, true, true, true] rfl rfl (by kernel_rfl) (fun _ _ _ h => h) (Or.inl ⟨by rfl, ?_⟩) ?_ ?_
  rotate_left
  · intro w'
    go_simp
    try with_reducible rfl
  rotate_left
  · simp only [Act.put, List.setIfInBounds_toArray, List.set_cons_zero, List.set_cons_succ]
    rfl
  refine done_ (by kernel_rfl) ?_
  have R5 := (HR.out.next hb5).next (below_alloc (Below.refl _ _) (.cells #[] 9))
  have hbw5 : Below w.heap.size w w5 := Below.next HH.out hb5
  have g2 := R5.g2
  have hxv : Vals (w5.alloc (.cells #[] 9)) a (r.slots.map Value.string) := (HX.out.below (below_alloc hbw5 _))
  have hown0 : (w5.alloc (.cells #[] 9)).ownsRow W2.heap.size 9 1 (.slice (some ⟨w5.heap.size, 0, none⟩) 0 0) 0 [] := World.ownsRow_lit (base := W2.heap.size) (e := 9) (size := 1) w5 #[] 0 hb5.size (by unfold maxLen; omega) rfl
  clear hHeld S0 I1 I2 I3
  go_wp2_with (at_builtin; refine wpList_append_vals _ rfl _ _ 24 rfl W2.heap.size 9 i0 (.string E0) 16 Try.underlying24 hi hz0 hz1 hz2 rfl _ 0 [] rfl hown0 a c r.slots.length (r.slots.map Value.string) (by simp) rfl hxv (strs_oneCell _) hnil (by unfold maxLen; omega) (by omega) (by have := hb5.size; simp; omega) ?_)
  intro v6 w6 hown6 hgrow6
  have hb6 : Below W2.heap.size W2 w6 := below_app (below_alloc hb5 _) hgrow6 hown0
  have hown6 : w6.ownsRow W2.heap.size 9 1 v6 r.slots.length (r.slots.map Value.string) := by simpa using hown6
  have R6 := HR.out.next hb6
  have g3 := R6.g3
  have g4 := R6.g4
  obtain ⟨a6, c6, hv6e, hv6⟩ := vals_own hown6
  rw [List.length_map] at hv6e
  subst hv6e
  clear hgrow6 hown0 hxv g2 R5 R6 hv6
  go_wp2_with (at_builtin; refine wpList_append_own _ rfl _ _ 24 rfl W2.heap.size 9 i0 (.string E0) 1 16 Try.underlying24 hi hz0 hz1 hz2 rfl (by decide) (.slice a6 r.slots.length c6) r.slots.length (r.slots.map Value.string) rfl (hown6.alloc _) ⟨w6.heap.size, 0, none⟩ 2 2 [.string r.port, .string r.hand] rfl rfl (cell_two_new _ _ _ _) (by simp [Value.oneCell']) (by unfold maxLen; omega) (by omega) (by have := hb6.size; simp; omega) ?_)
  intro v7 w7 hown7 hgrow7 _
  have hb7 : Below W2.heap.size W2 w7 := below_app (below_alloc hb6 _) hgrow7 (hown6.alloc _)
  have hown7 : w7.ownsRow W2.heap.size 9 1 v7 (allOf r).length ((allOf r).map Value.string) := by
    have e1 : (allOf r).length = r.slots.length + 2 := by simp [allOf]
    have e2 : (allOf r).map Value.string = r.slots.map Value.string ++ [.string r.port, .string r.hand] := by simp [allOf]
    rw [e1, e2]; exact hown7
  have hll : (allOf r).length ≤ 1000002 := by simp [allOf]; omega
  obtain ⟨a7, c7, hv7e, hv7⟩ := vals_own hown7
  rw [List.length_map] at hv7e
  subst hv7e
  have HV7 : Hid (Strs w7 a7 (allOf r)) := Lib.hid hv7
  have HB7 := Lib.hid (Below.next HH.out hb7)
  clear hv7 hown7 hgrow7 hown6 hb7 hb6 hb5 hb4 hb3 g3 g4 hbw5 KK HR HX hb1 hb2
  generalize hla : allOf r = l at *
  have HA := Lib.hid hla
  clear hla
  go_wp2
  go_loopw [6] (fun i wr => ∃ k : Nat, i = .int .i64 k ∧ k ≤ l.length ∧ Hid (∀ i (h : i < l.length) j (h2 : j < i), i < k → l[i] ≠ E0 → l[i] ≠ l[j]) ∧ Hid (Below w7.heap.size w7 wr)) (fun i _ => l.length - (intOf i).toNat)
  case atStart => exact ⟨0, rfl, by omega, Lib.hid fun i h j h2 h3 => absurd h3 (by omega), Lib.hid (Below.refl _ _)⟩
  case round =>
    obtain ⟨k, rfl, hk, HQ, HB⟩ := hrel
    by_cases h : k < l.length
    · go_wp2
      go_loopw [7] (fun j wx => ∃ q : Nat, j = .int .i64 q ∧ q ≤ k ∧ Hid (∀ j (h2 : j < k), j < q → l[k] ≠ E0 → l[k] ≠ l[j]) ∧ Hid (Below w7.heap.size w7 wx)) (fun j _ => k - (intOf j).toNat)
      case atStart => exact ⟨0, rfl, by omega, Lib.hid fun j h2 h3 => absurd h3 (by omega), HB⟩
      case round =>
        obtain ⟨q, rfl, hq, HQ2, HB2⟩ := hrel
        have hs := HV7.out.below HB2.out
        by_cases hlt : q < k
        · obtain ⟨x, rfl, c1⟩ := hs.at h
          obtain ⟨x', e', c2⟩ := hs.at (i := q) (by omega)
          cases e'
          have b1 : (k : Int) < (l.length : Int) := by omega
          have b2 : (q : Int) < (l.length : Int) := by omega
          have b3 : (q : Int) < (k : Int) := by omega
          by_cases he : l[k] = E0
          · have HE := Lib.hid he
            rw [he] at c1
            unfold E0 at c1
            clear he hs
            go_wp2
            go_quiet (fail)
            go_wp2
            go_roundw
            case rel => exact ⟨q + 1, by go_num, by omega, Lib.hid fun j h2 h3 h4 => absurd HE.out h4, Lib.hid (below_drewN HB2.out _)⟩
            case measure => simp [intOf]; omega
          · have hne := ne_isEmpty he
            by_cases heq : l[k] = l[q]
            · have HE := Lib.hid (And.intro he heq)
              have hqq := eq_str heq
              have HV : Hid (decide (once l) = false) := Lib.hid (decide_eq_false fun ho => ho k h q hlt he heq)
              rw [← heq] at c2
              have hq2 : (l[k].toList == l[k].toList) = true := by simp
              generalize l[k] = s at *
              clear he heq hs hqq HE
              go_wp2
              go_quiet (fail)
              go_wp2
              go_ret
              exact ⟨by rw [HA.out, HV.out]; rfl, Below.next HB7.out (below_drewN HB2.out _)⟩
            · have HE := Lib.hid heq
              have hqq := ne_str heq
              generalize hg1 : l[k] = s at *
              generalize hg2 : l[q] = s2 at *
              have HG := Lib.hid hg2
              clear he heq hs hg2
              go_wp2
              go_quiet (fail)
              go_wp2
              go_roundw
              case rel => exact ⟨q + 1, by go_num, by omega, Lib.hid fun j h2 h3 h4 => by
                by_cases hj : j = q
                · subst hj; rw [HG.out]; exact HE.out
                · exact HQ2.out j h2 (by omega) h4, Lib.hid (below_drewN HB2.out _)⟩
              case measure => simp [intOf]; omega
        · obtain rfl : q = k := by omega
          go_wp2
          go_roundw
          case rel => exact ⟨q + 1, by go_num, by omega, Lib.hid fun i h3 j h2 h4 => by
            by_cases hi : i = q
            · subst hi; exact HQ2.out j h2 h2
            · exact HQ.out i h3 j h2 (by omega), HB2⟩
          case measure => simp [intOf]; omega
    · have HV : Hid (decide (once l) = true) := Lib.hid (decide_eq_true fun i hi j hj => HQ.out i hi j hj (by omega))
      go_wp2
      go_ret
      exact ⟨by rw [HA.out, HV.out]; rfl, Below.next HB7.out HB.out⟩
end Go.Proofs.Ytpnkaoigpefmiaa
