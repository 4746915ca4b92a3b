/- The laws' helpers: held, few, Same. -/
import Derived.Test.YtpnkaoigpefmiaaR41
namespace Go.Proofs.Ytpnkaoigpefmiaa
open Go.RowKit
set_option linter.unusedVariables false
set_option linter.unusedSimpArgs false

set_option maxRecDepth 100000 in
set_option maxHeartbeats 1000000 in
theorem held_any (r : Rb) (a : Option Addr) (c : Nat) (w : World) (hx : Strs w a r.slots) (hc : r.slots.length ≤ c) (hnil : a = none → c = 0) (hl : r.slots.length ≤ 1000000) :
    Calls Try.prog 18 #[r.val a c] w fun e w' => ∃ v, e = .returned v ∧ w'.ownsRow w.heap.size 9 1 v (allOf r).length ((allOf r).map Value.string) ∧ Below w.heap.size w w' := by
  obtain ⟨p0, fl, ss, pt, ha⟩ := r
  obtain ⟨i0, hi, hz0, hz1, hz2⟩ := info_parts info9
  have R2 := (Blk.new w 26 #[.int .i64 p0, .bool fl, .slice a ss.length c, .string pt, .string ha]).alloc (.cells #[] 9)
  have L2 := below_alloc (below_alloc (Below.refl _ w) (.cells #[.int .i64 p0, .bool fl, .slice a ss.length c, .string pt, .string ha] 26)) (.cells #[] 9)
  have hown0 := World.ownsRow_lit (base := w.heap.size + 1) (e := 9) (size := 1) (w.alloc (.cells #[.int .i64 p0, .bool fl, .slice a ss.length c, .string pt, .string ha] 26)) #[] 0 (by simp) (by unfold maxLen; omega) rfl
  simp only [World.size_alloc] at hown0
  have hxv : Vals _ a (ss.map Value.string) := hx.below L2
  have HR2 := Lib.hid R2
  have HL2 := Lib.hid L2
  clear R2 hx L2
  dsimp only at hc hl
  unfold Rb.val E0 at *
  go_enter Try.func18, Try.ntmps18
  go_wp2_with (at_builtin; refine wpList_append_vals _ rfl _ _ 24 rfl (w.heap.size + 1) 9 i0 (.string E0) 16 Try.underlying24 hi hz0 hz1 hz2 rfl _ 0 [] rfl hown0 a c ss.length (ss.map Value.string) (by simp) rfl hxv (strs_oneCell _) hnil (by unfold maxLen; omega) (by omega) (by simp) ?_)
  intro v6 w6 hown6 hgrow6
  have hb6 : Below (w.heap.size + 1) _ w6 := (Below.refl _ _).grown hgrow6 (by simp) (fun k e => by cases e; exact Nat.le_refl _)
  have R6 := (hb6.block w.heap.size (by omega)).trans HR2.out
  have L6 := HL2.out.trans (hb6.mono (by omega : w.heap.size ≤ w.heap.size + 1))
  have hown6 : w6.ownsRow (w.heap.size + 1) 9 1 v6 ss.length (ss.map Value.string) := by simpa using hown6
  have hs6 := Blk.lt R6
  obtain ⟨a6, c6, rfl, _, _, _, _⟩ := ownsStrs hown6
  have b3 : w6.cell? ⟨w.heap.size, 3, none⟩ = some (.string pt) := Blk.cell R6 3
  have b4 : w6.cell? ⟨w.heap.size, 4, none⟩ = some (.string ha) := Blk.cell R6 4
  clear hown0 hgrow6 hxv hb6 R6 HR2 HL2
  go_wp2_with (at_builtin; refine wpList_append_own _ rfl _ _ 24 rfl (w.heap.size + 1) 9 i0 (.string E0) 1 16 Try.underlying24 hi hz0 hz1 hz2 rfl (by decide) (.slice a6 ss.length c6) ss.length (ss.map Value.string) rfl (hown6.alloc _) ⟨w6.heap.size, 0, none⟩ 2 2 [.string pt, .string ha] rfl rfl (cell_two_new _ _ _ _) (by simp [Value.oneCell']) (by unfold maxLen; omega) (by omega) (by simp; omega) ?_)
  intro v7 w7 hown7 hgrow7 _
  have HL := Lib.hid (below_app (w := w) (below_alloc' L6 _) hgrow7 (ownsRow_mono (hown6.alloc _) (by omega : w.heap.size ≤ w.heap.size + 1)))
  have HO : Hid (w7.ownsRow w.heap.size 9 1 v7 (allOf ⟨p0, fl, ss, pt, ha⟩).length ((allOf ⟨p0, fl, ss, pt, ha⟩).map Value.string)) := by
    have e1 : (allOf ⟨p0, fl, ss, pt, ha⟩).length = ss.length + 2 := by simp [allOf]
    have e2 : (allOf ⟨p0, fl, ss, pt, ha⟩).map Value.string = ss.map Value.string ++ [.string pt, .string ha] := by simp [allOf]
    rw [e1, e2]; exact Lib.hid (ownsRow_mono hown7 (by omega))
  clear hown6 hown7 hgrow7 L6
  go_wp2
  go_ret
  exact ⟨_, rfl, HO.out, HL.out⟩
def fewR (r : Rb) : Rb := if r.slots.length > 70 then { r with slots := r.slots.take 70 } else r
set_option maxRecDepth 100000 in
set_option maxHeartbeats 1000000 in
theorem few_any (r : Rb) (a : Option Addr) (c : Nat) (w : World) (hc : r.slots.length ≤ c) (hl : r.slots.length ≤ 9223372036854775807) :
    Calls Try.prog 9 #[r.val a c] w fun e w' => e = .returned ((fewR r).val a c) ∧ Below w.heap.size w w' := by
  obtain ⟨p0, fl, ss, pt, ha⟩ := r
  obtain ⟨i0, hi, hz0, hz1, hz2⟩ := info_parts info9
  dsimp only at hc hl
  by_cases h : ss.length > 70
  · have HV : Hid (fewR ⟨p0, fl, ss, pt, ha⟩ = ⟨p0, fl, ss.take 70, pt, ha⟩) := Lib.hid (by rw [fewR, if_pos h])
    have hml : Hid ((ss.take 70).length = 70) := Lib.hid (by simp; omega)
    have q1 : decide ((ss.length : Int) > 70) = true := decide_eq_true (by omega)
    have hcc : (70 : Int) ≤ (c : Int) := by omega
    clear h
    unfold Rb.val
    go_enter Try.func9, Try.ntmps9
    go_wp2
    refine bodyPost_ret (v := .agg #[.int .i64 p0, .bool fl, .slice a 70 c, .string pt, .string ha]) (by simp [results, Try.results9, go_sem]) rfl ?_
    rw [HV.out, hml.out]
    exact ⟨rfl, below_alloc' (below_alloc (Below.refl _ _) _) _⟩
  · have HV : Hid (fewR ⟨p0, fl, ss, pt, ha⟩ = ⟨p0, fl, ss, pt, ha⟩) := Lib.hid (by rw [fewR, if_neg h])
    have q1 : decide ((ss.length : Int) > 70) = false := decide_eq_false (by omega)
    clear h
    unfold Rb.val
    go_enter Try.func9, Try.ntmps9
    go_wp2
    refine bodyPost_ret (v := .agg #[.int .i64 p0, .bool fl, .slice a ss.length c, .string pt, .string ha]) (by simp [results, Try.results9, go_sem]) rfl ?_
    rw [HV.out]
    exact ⟨rfl, below_alloc' (below_alloc (Below.refl _ _) _) _⟩
end Go.Proofs.Ytpnkaoigpefmiaa
