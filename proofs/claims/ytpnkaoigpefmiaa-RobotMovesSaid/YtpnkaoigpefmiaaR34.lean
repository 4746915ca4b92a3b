/- The reference's with. -/
import Derived.Test.YtpnkaoigpefmiaaR33
namespace Go.Proofs.Ytpnkaoigpefmiaa
open Go.RowKit
set_option linter.unusedVariables false
set_option linter.unusedSimpArgs false

theorem Blk.keep {W W' : World} {B n : Nat} {t : TypeId} {cs : Array Value} (h : Blk W B t cs) (hb : Below n W W') (hB : B < n) : Blk W' B t cs := (hb.block _ hB).trans h
set_option maxRecDepth 100000 in
set_option maxHeartbeats 1000000 in
theorem rwith_none (r : Rb) (a : Option Addr) (c : Nat) (k i : Int) (b : ByteArray) (w : World) (hx : Strs w a r.slots) (hc : r.slots.length ≤ c) (hnil : a = none → c = 0) (hl : r.slots.length ≤ 1000000) (q0 : (k == 0) = false) (q2 : (k == 2) = false) :
    Calls Try.prog 34 #[r.val a c, .agg #[.int .i64 k, .int .i64 i], .string b] w fun e w' => ∃ a' c', e = .returned ((r : Rb).val a' c') ∧ w'.ownsRow w.heap.size 9 1 (.slice a' r.slots.length c') r.slots.length ((r : Rb).slots.map Value.string) ∧ Below w.heap.size w w' := by
  obtain ⟨p0, fl, ss, pt, ha⟩ := r
  obtain ⟨i0, hi, hz0, hz1, hz2⟩ := info_parts info9
  have R2 := (((Blk.new w 26 #[.int .i64 p0, .bool fl, .slice a ss.length c, .string pt, .string ha]).alloc (.cells #[.int .i64 k, .int .i64 i] 28)).alloc (.cells #[.int .i64 0, .bool false, .slice none 0 0, .string E0, .string E0] 26)).alloc (.cells #[] 9)
  have E2 := ((Blk.new (w.alloc (.cells #[.int .i64 p0, .bool fl, .slice a ss.length c, .string pt, .string ha] 26)) 28 #[.int .i64 k, .int .i64 i]).alloc (.cells #[.int .i64 0, .bool false, .slice none 0 0, .string E0, .string E0] 26)).alloc (.cells #[] 9)
  have Z2 := (Blk.new ((w.alloc (.cells #[.int .i64 p0, .bool fl, .slice a ss.length c, .string pt, .string ha] 26)).alloc (.cells #[.int .i64 k, .int .i64 i] 28)) 26 #[.int .i64 0, .bool false, .slice none 0 0, .string E0, .string E0]).alloc (.cells #[] 9)
  have L2 := below_alloc (below_alloc (below_alloc (below_alloc (Below.refl _ w) (.cells #[.int .i64 p0, .bool fl, .slice a ss.length c, .string pt, .string ha] 26)) (.cells #[.int .i64 k, .int .i64 i] 28)) (.cells #[.int .i64 0, .bool false, .slice none 0 0, .string E0, .string E0] 26)) (.cells #[] 9)
  have hown0 := World.ownsRow_lit (base := w.heap.size + 3) (e := 9) (size := 1) (((w.alloc (.cells #[.int .i64 p0, .bool fl, .slice a ss.length c, .string pt, .string ha] 26)).alloc (.cells #[.int .i64 k, .int .i64 i] 28)).alloc (.cells #[.int .i64 0, .bool false, .slice none 0 0, .string E0, .string E0] 26)) #[] 0 (by simp) (by unfold maxLen; omega) rfl
  simp only [World.size_alloc] at hown0 E2 Z2
  have hxv : Vals _ a (ss.map Value.string) := hx.below L2
  have HR2 := Lib.hid R2
  have HE2 := Lib.hid E2
  have HZ2 := Lib.hid Z2
  have HL2 := Lib.hid L2
  clear R2 E2 Z2 hx L2
  dsimp only at hc hl
  unfold Rb.val E0 at *
  go_enter Try.func34, Try.ntmps34
  go_wp2_with (at_builtin; refine wpList_append_vals _ rfl _ _ 24 rfl (w.heap.size + 3) 9 i0 (.string E0) 16 Try.underlying24 hi hz0 hz1 hz2 rfl _ 0 [] rfl hown0 a c ss.length (ss.map Value.string) (by simp) rfl hxv (strs_oneCell _) hnil (by unfold maxLen; omega) (by omega) (by simp) ?_)
  intro v6 w6 hown6 hgrow6
  have hb6 : Below (w.heap.size + 3) _ w6 := (Below.refl _ _).grown hgrow6 (by simp) (fun k e => by cases e; exact Nat.le_refl _)
  have R6 := HR2.out.keep hb6 (by omega)
  have E6 := HE2.out.keep hb6 (by omega)
  have Z6 := HZ2.out.keep hb6 (by omega)
  have L6 := HL2.out.trans (hb6.mono (by omega : w.heap.size ≤ w.heap.size + 3))
  have hown6 : w6.ownsRow (w.heap.size + 3) 9 1 v6 ss.length (ss.map Value.string) := by simpa using hown6
  obtain ⟨a6, c6, rfl, _, _, _, _⟩ := ownsStrs hown6
  have R7 := R6.set 2 (.slice a6 ss.length c6)
  simp only [List.setIfInBounds_toArray, List.set_cons_zero, List.set_cons_succ] at R7
  have hlt := Z6.lt
  obtain ⟨b0, b1, b2, b3, b4⟩ := R6.at5
  have bf := fun j => R6.free j
  obtain ⟨z0, z1, z2, z3, z4⟩ := Z6.at5
  have zf := fun j => Z6.free j
  have e0 : w6.cell? ⟨w.heap.size + 1, 0, none⟩ = some (.int .i64 k) := E6.cell 0
  have e1 : w6.cell? ⟨w.heap.size + 1, 1, none⟩ = some (.int .i64 i) := E6.cell 1
  have Z7 := Z6.other (B' := w.heap.size) 2 (by omega) (.slice a6 ss.length c6)
  have O7 := ownsRow_setCell (B := w.heap.size) (j := 2) (u := .slice a6 ss.length c6) hown6 (by omega)
  have L7 := below_set L6 (Nat.le_refl _) 2 (.slice a6 ss.length c6)
  clear hown0 hown6 hgrow6 hxv hb6 R6 E6 Z6 L6 HR2 HE2 HZ2 HL2
  have HF := Lib.hid (Z7.five (.int .i64 p0) (.bool fl) (.slice a6 ss.length c6) (.string pt) (.string ha)).at5
  have HL := Lib.hid (below_five L7 (by omega : w.heap.size ≤ w.heap.size + 2) (.int .i64 p0) (.bool fl) (.slice a6 ss.length c6) (.string pt) (.string ha))
  have HO := Lib.hid (ownsRow_mono (ownsRow_five (B := w.heap.size + 2) O7 (by omega) (.int .i64 p0) (.bool fl) (.slice a6 ss.length c6) (.string pt) (.string ha)) (by omega : w.heap.size ≤ w.heap.size + 3))
  clear R7 Z7 O7 L7
  go_wp2
  obtain ⟨g0, g1, g2, g3, g4⟩ := HF.out
  rw [show w.heap.size + 2 = w.heap.size + 1 + 1 from rfl] at g0 g1 g2 g3 g4
  refine bodyPost_ret (v := .agg #[.int .i64 p0, .bool fl, .slice a6 ss.length c6, .string pt, .string ha]) (by simp [results, Try.results34, go_sem, E0, g0, g1, g2, g3, g4]) rfl ?_
  exact ⟨a6, c6, rfl, HO.out, HL.out⟩
set_option maxRecDepth 100000 in
set_option maxHeartbeats 1000000 in
theorem rwith_port (r : Rb) (a : Option Addr) (c : Nat) (i : Int) (b : ByteArray) (w : World) (hx : Strs w a r.slots) (hc : r.slots.length ≤ c) (hnil : a = none → c = 0) (hl : r.slots.length ≤ 1000000)  :
    Calls Try.prog 34 #[r.val a c, .agg #[.int .i64 2, .int .i64 i], .string b] w fun e w' => ∃ a' c', e = .returned (({ r with port := b } : Rb).val a' c') ∧ w'.ownsRow w.heap.size 9 1 (.slice a' r.slots.length c') r.slots.length (({ r with port := b } : Rb).slots.map Value.string) ∧ Below w.heap.size w w' := by
  obtain ⟨p0, fl, ss, pt, ha⟩ := r
  obtain ⟨i0, hi, hz0, hz1, hz2⟩ := info_parts info9
  have R2 := (((Blk.new w 26 #[.int .i64 p0, .bool fl, .slice a ss.length c, .string pt, .string ha]).alloc (.cells #[.int .i64 2, .int .i64 i] 28)).alloc (.cells #[.int .i64 0, .bool false, .slice none 0 0, .string E0, .string E0] 26)).alloc (.cells #[] 9)
  have E2 := ((Blk.new (w.alloc (.cells #[.int .i64 p0, .bool fl, .slice a ss.length c, .string pt, .string ha] 26)) 28 #[.int .i64 2, .int .i64 i]).alloc (.cells #[.int .i64 0, .bool false, .slice none 0 0, .string E0, .string E0] 26)).alloc (.cells #[] 9)
  have Z2 := (Blk.new ((w.alloc (.cells #[.int .i64 p0, .bool fl, .slice a ss.length c, .string pt, .string ha] 26)).alloc (.cells #[.int .i64 2, .int .i64 i] 28)) 26 #[.int .i64 0, .bool false, .slice none 0 0, .string E0, .string E0]).alloc (.cells #[] 9)
  have L2 := below_alloc (below_alloc (below_alloc (below_alloc (Below.refl _ w) (.cells #[.int .i64 p0, .bool fl, .slice a ss.length c, .string pt, .string ha] 26)) (.cells #[.int .i64 2, .int .i64 i] 28)) (.cells #[.int .i64 0, .bool false, .slice none 0 0, .string E0, .string E0] 26)) (.cells #[] 9)
  have hown0 := World.ownsRow_lit (base := w.heap.size + 3) (e := 9) (size := 1) (((w.alloc (.cells #[.int .i64 p0, .bool fl, .slice a ss.length c, .string pt, .string ha] 26)).alloc (.cells #[.int .i64 2, .int .i64 i] 28)).alloc (.cells #[.int .i64 0, .bool false, .slice none 0 0, .string E0, .string E0] 26)) #[] 0 (by simp) (by unfold maxLen; omega) rfl
  simp only [World.size_alloc] at hown0 E2 Z2
  have hxv : Vals _ a (ss.map Value.string) := hx.below L2
  have HR2 := Lib.hid R2
  have HE2 := Lib.hid E2
  have HZ2 := Lib.hid Z2
  have HL2 := Lib.hid L2
  clear R2 E2 Z2 hx L2
  dsimp only at hc hl
  unfold Rb.val E0 at *
  go_enter Try.func34, Try.ntmps34
  go_wp2_with (at_builtin; refine wpList_append_vals _ rfl _ _ 24 rfl (w.heap.size + 3) 9 i0 (.string E0) 16 Try.underlying24 hi hz0 hz1 hz2 rfl _ 0 [] rfl hown0 a c ss.length (ss.map Value.string) (by simp) rfl hxv (strs_oneCell _) hnil (by unfold maxLen; omega) (by omega) (by simp) ?_)
  intro v6 w6 hown6 hgrow6
  have hb6 : Below (w.heap.size + 3) _ w6 := (Below.refl _ _).grown hgrow6 (by simp) (fun k e => by cases e; exact Nat.le_refl _)
  have R6 := HR2.out.keep hb6 (by omega)
  have E6 := HE2.out.keep hb6 (by omega)
  have Z6 := HZ2.out.keep hb6 (by omega)
  have L6 := HL2.out.trans (hb6.mono (by omega : w.heap.size ≤ w.heap.size + 3))
  have hown6 : w6.ownsRow (w.heap.size + 3) 9 1 v6 ss.length (ss.map Value.string) := by simpa using hown6
  obtain ⟨a6, c6, rfl, _, _, _, _⟩ := ownsStrs hown6
  have R7 := R6.set 2 (.slice a6 ss.length c6)
  simp only [List.setIfInBounds_toArray, List.set_cons_zero, List.set_cons_succ] at R7
  have hlt := Z6.lt
  obtain ⟨b0, b1, b2, b3, b4⟩ := R6.at5
  have bf := fun j => R6.free j
  obtain ⟨z0, z1, z2, z3, z4⟩ := Z6.at5
  have zf := fun j => Z6.free j
  have e0 : w6.cell? ⟨w.heap.size + 1, 0, none⟩ = some (.int .i64 2) := E6.cell 0
  have e1 : w6.cell? ⟨w.heap.size + 1, 1, none⟩ = some (.int .i64 i) := E6.cell 1
  have Z7 := Z6.other (B' := w.heap.size) 2 (by omega) (.slice a6 ss.length c6)
  have O7 := ownsRow_setCell (B := w.heap.size) (j := 2) (u := .slice a6 ss.length c6) hown6 (by omega)
  have L7 := below_set L6 (Nat.le_refl _) 2 (.slice a6 ss.length c6)
  clear hown0 hown6 hgrow6 hxv hb6 R6 E6 Z6 L6 HR2 HE2 HZ2 HL2
  have Z8 := Z7.other (B' := w.heap.size) 3 (by omega) (.string b)
  have O8 := ownsRow_setCell (B := w.heap.size) (j := 3) (u := .string b) O7 (by omega)
  have L8 := below_set L7 (Nat.le_refl _) 3 (.string b)
  clear R7 Z7 O7 L7
  have HF := Lib.hid (Z8.five (.int .i64 p0) (.bool fl) (.slice a6 ss.length c6) (.string b) (.string ha)).at5
  have HL := Lib.hid (below_five L8 (by omega : w.heap.size ≤ w.heap.size + 2) (.int .i64 p0) (.bool fl) (.slice a6 ss.length c6) (.string b) (.string ha))
  have HO := Lib.hid (ownsRow_mono (ownsRow_five (B := w.heap.size + 2) O8 (by omega) (.int .i64 p0) (.bool fl) (.slice a6 ss.length c6) (.string b) (.string ha)) (by omega : w.heap.size ≤ w.heap.size + 3))
  clear  Z8 O8 L8
  go_wp2
  obtain ⟨g0, g1, g2, g3, g4⟩ := HF.out
  rw [show w.heap.size + 2 = w.heap.size + 1 + 1 from rfl] at g0 g1 g2 g3 g4
  refine bodyPost_ret (v := .agg #[.int .i64 p0, .bool fl, .slice a6 ss.length c6, .string b, .string ha]) (by simp [results, Try.results34, go_sem, E0, g0, g1, g2, g3, g4]) rfl ?_
  exact ⟨a6, c6, rfl, HO.out, HL.out⟩
set_option maxRecDepth 100000 in
set_option maxHeartbeats 1000000 in
theorem rwith_slot (r : Rb) (a : Option Addr) (c : Nat) (i : Nat) (b : ByteArray) (w : World) (hx : Strs w a r.slots) (hc : r.slots.length ≤ c) (hnil : a = none → c = 0) (hl : r.slots.length ≤ 1000000) (hil : i < r.slots.length) :
    Calls Try.prog 34 #[r.val a c, .agg #[.int .i64 0, .int .i64 i], .string b] w fun e w' => ∃ a' c', e = .returned (({ r with slots := r.slots.set i b } : Rb).val a' c') ∧ w'.ownsRow w.heap.size 9 1 (.slice a' r.slots.length c') r.slots.length (({ r with slots := r.slots.set i b } : Rb).slots.map Value.string) ∧ Below w.heap.size w w' := by
  obtain ⟨p0, fl, ss, pt, ha⟩ := r
  obtain ⟨i0, hi, hz0, hz1, hz2⟩ := info_parts info9
  have R2 := (((Blk.new w 26 #[.int .i64 p0, .bool fl, .slice a ss.length c, .string pt, .string ha]).alloc (.cells #[.int .i64 0, .int .i64 i] 28)).alloc (.cells #[.int .i64 0, .bool false, .slice none 0 0, .string E0, .string E0] 26)).alloc (.cells #[] 9)
  have E2 := ((Blk.new (w.alloc (.cells #[.int .i64 p0, .bool fl, .slice a ss.length c, .string pt, .string ha] 26)) 28 #[.int .i64 0, .int .i64 i]).alloc (.cells #[.int .i64 0, .bool false, .slice none 0 0, .string E0, .string E0] 26)).alloc (.cells #[] 9)
  have Z2 := (Blk.new ((w.alloc (.cells #[.int .i64 p0, .bool fl, .slice a ss.length c, .string pt, .string ha] 26)).alloc (.cells #[.int .i64 0, .int .i64 i] 28)) 26 #[.int .i64 0, .bool false, .slice none 0 0, .string E0, .string E0]).alloc (.cells #[] 9)
  have L2 := below_alloc (below_alloc (below_alloc (below_alloc (Below.refl _ w) (.cells #[.int .i64 p0, .bool fl, .slice a ss.length c, .string pt, .string ha] 26)) (.cells #[.int .i64 0, .int .i64 i] 28)) (.cells #[.int .i64 0, .bool false, .slice none 0 0, .string E0, .string E0] 26)) (.cells #[] 9)
  have hown0 := World.ownsRow_lit (base := w.heap.size + 3) (e := 9) (size := 1) (((w.alloc (.cells #[.int .i64 p0, .bool fl, .slice a ss.length c, .string pt, .string ha] 26)).alloc (.cells #[.int .i64 0, .int .i64 i] 28)).alloc (.cells #[.int .i64 0, .bool false, .slice none 0 0, .string E0, .string E0] 26)) #[] 0 (by simp) (by unfold maxLen; omega) rfl
  simp only [World.size_alloc] at hown0 E2 Z2
  have hxv : Vals _ a (ss.map Value.string) := hx.below L2
  have HR2 := Lib.hid R2
  have HE2 := Lib.hid E2
  have HZ2 := Lib.hid Z2
  have HL2 := Lib.hid L2
  clear R2 E2 Z2 hx L2
  dsimp only at hc hl
  dsimp only at hil
  unfold Rb.val E0 at *
  go_enter Try.func34, Try.ntmps34
  go_wp2_with (at_builtin; refine wpList_append_vals _ rfl _ _ 24 rfl (w.heap.size + 3) 9 i0 (.string E0) 16 Try.underlying24 hi hz0 hz1 hz2 rfl _ 0 [] rfl hown0 a c ss.length (ss.map Value.string) (by simp) rfl hxv (strs_oneCell _) hnil (by unfold maxLen; omega) (by omega) (by simp) ?_)
  intro v6 w6 hown6 hgrow6
  have hb6 : Below (w.heap.size + 3) _ w6 := (Below.refl _ _).grown hgrow6 (by simp) (fun k e => by cases e; exact Nat.le_refl _)
  have R6 := HR2.out.keep hb6 (by omega)
  have E6 := HE2.out.keep hb6 (by omega)
  have Z6 := HZ2.out.keep hb6 (by omega)
  have L6 := HL2.out.trans (hb6.mono (by omega : w.heap.size ≤ w.heap.size + 3))
  have hown6 : w6.ownsRow (w.heap.size + 3) 9 1 v6 ss.length (ss.map Value.string) := by simpa using hown6
  obtain ⟨a6, c6, rfl, _, _, _, _⟩ := ownsStrs hown6
  have R7 := R6.set 2 (.slice a6 ss.length c6)
  simp only [List.setIfInBounds_toArray, List.set_cons_zero, List.set_cons_succ] at R7
  have hlt := Z6.lt
  obtain ⟨b0, b1, b2, b3, b4⟩ := R6.at5
  have bf := fun j => R6.free j
  obtain ⟨z0, z1, z2, z3, z4⟩ := Z6.at5
  have zf := fun j => Z6.free j
  have e0 : w6.cell? ⟨w.heap.size + 1, 0, none⟩ = some (.int .i64 0) := E6.cell 0
  have e1 : w6.cell? ⟨w.heap.size + 1, 1, none⟩ = some (.int .i64 i) := E6.cell 1
  have Z7 := Z6.other (B' := w.heap.size) 2 (by omega) (.slice a6 ss.length c6)
  have O7 := ownsRow_setCell (B := w.heap.size) (j := 2) (u := .slice a6 ss.length c6) hown6 (by omega)
  have L7 := below_set L6 (Nat.le_refl _) 2 (.slice a6 ss.length c6)
  clear hown0 hown6 hgrow6 hxv hb6 R6 E6 Z6 L6 HR2 HE2 HZ2 HL2
  obtain ⟨g, rfl, hg0, hg1⟩ := own_addr O7 (by omega)
  have d0 : (0 : Int) ≤ (i : Int) := by omega
  have d1 : (i : Int) < (ss.length : Int) := by omega
  have df := O7.frozenAt i
  have dv : (w6.setCell ⟨w.heap.size, 2, none⟩ (.slice (some ⟨g, 0, none⟩) ss.length c6)).cell? ⟨g, i, none⟩ = some (.string ss[i]) := by rw [O7.cellAt i (by omega)]; simp [hil]
  have ha' := add_at g i
  have O8 := (O7.stored i (.string b)).1
  have Z8 := Z7.other (B' := g) i (by omega) (.string b)
  have L8 := below_set L7 (by omega : w.heap.size ≤ g) i (.string b)
  have n1 : w.heap.size ≠ g := by omega
  have n2 : g ≠ w.heap.size := by omega
  have n3 : g ≠ w.heap.size + 1 := by omega
  have n4 : w.heap.size + 1 ≠ g := by omega
  have n5 : g ≠ w.heap.size + 1 + 1 := by omega
  have n6 : w.heap.size + 1 + 1 ≠ g := by omega
  clear R7 Z7 O7 L7
  have HF := Lib.hid (Z8.five (.int .i64 p0) (.bool fl) (.slice (some ⟨g, 0, none⟩) ss.length c6) (.string pt) (.string ha)).at5
  have HL := Lib.hid (below_five L8 (by omega : w.heap.size ≤ w.heap.size + 2) (.int .i64 p0) (.bool fl) (.slice (some ⟨g, 0, none⟩) ss.length c6) (.string pt) (.string ha))
  have HO := Lib.hid (ownsRow_mono (ownsRow_five (B := w.heap.size + 2) O8 (by omega) (.int .i64 p0) (.bool fl) (.slice (some ⟨g, 0, none⟩) ss.length c6) (.string pt) (.string ha)) (by omega : w.heap.size ≤ w.heap.size + 3))
  clear  Z8 O8 L8
  go_wp2
  obtain ⟨g0, g1, g2, g3, g4⟩ := HF.out
  rw [show w.heap.size + 2 = w.heap.size + 1 + 1 from rfl] at g0 g1 g2 g3 g4
  refine bodyPost_ret (v := .agg #[.int .i64 p0, .bool fl, .slice (some ⟨g, 0, none⟩) ss.length c6, .string pt, .string ha]) (by simp [results, Try.results34, go_sem, E0, g0, g1, g2, g3, g4]) rfl ?_
  exact ⟨some ⟨g, 0, none⟩, c6, by simp [Rb.val], HO.out, HL.out⟩
end Go.Proofs.Ytpnkaoigpefmiaa
