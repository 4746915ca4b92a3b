/- The reference's PutUint: what lies in the slice, and the number's bytes behind it. -/
import Derived.Test.YtbihkkaikcfilaaL8
import Derived.Test.YtbihkkaikcfilaaP2
namespace Go.Proofs.Ytbihkkaikcfilaa
open Go.RowKit
set_option linter.unusedVariables false
set_option linter.unusedSimpArgs false

structure PInv (w : World) (xs : List Int) (v m : Nat) (ys : List Int) (out : Value) (wr : World) : Prop where
  own : wr.ownsRow w.heap.size 5 1 out ys.length (ys.map (Value.int .u8))
  low : Below w.heap.size w wr
  eq : xs ++ putN v = ys ++ putN m
  le : m ≤ v
  room : ys.length + (putN m).length = xs.length + (putN v).length
set_option maxRecDepth 100000 in
set_option maxHeartbeats 8000000 in
theorem rput_any (v : Nat) (a : Option Addr) (c : Nat) (xs : List Int) (w : World) (hx : Ints .u8 w a xs) (hc : xs.length ≤ c) (hnil : a = none → c = 0) (hl : xs.length ≤ 2000000) (hv : v < 2097152) :
    Calls Try.prog 19 #[.slice a xs.length c, .int .u64 v] w fun e w' => ∃ r, e = .returned r ∧ w'.ownsRow w.heap.size 5 1 r (xs ++ putN v).length ((xs ++ putN v).map (Value.int .u8)) ∧ Below w.heap.size w w' := by
  obtain ⟨i0, hi, hz0, hz1, hz2⟩ := info_parts info5
  have hpl := putN_len v hv
  have hx' : Vals (w.alloc (.cells #[] 5)) a (xs.map (Value.int .u8)) := (hx.below ((Below.refl _ _).alloc (Nat.le_refl _) _)).vals
  have hown : (w.alloc (.cells #[] 5)).ownsRow w.heap.size 5 1 (.slice (some ⟨w.heap.size, 0, none⟩) 0 0) 0 [] := World.ownsRow_lit (base := w.heap.size) (e := 5) (size := 1) w #[] 0 (Nat.le_refl _) (by unfold maxLen; omega) rfl
  clear hx
  go_enter Try.func19, Try.ntmps19
  go_wp2_with (at_builtin; refine wpList_append_vals _ rfl _ _ 22 rfl w.heap.size 5 i0 (.int .u8 0) 1 Try.underlying22 hi hz0 hz1 hz2 rfl _ 0 [] rfl hown a c xs.length (xs.map (Value.int .u8)) (by simp) rfl hx' (ints_oneCell _ _) hnil (by unfold maxLen; omega) (by omega) (by simp) ?_)
  intro v1 w1 hown1 hgrow1
  have hlow1 : Below w.heap.size w w1 := below_app ((Below.refl _ _).alloc (Nat.le_refl _) _) hgrow1 hown
  have HS : Hid (PInv w xs v v xs v1 w1) := ⟨by simpa using hown1, hlow1, rfl, Nat.le_refl _, rfl⟩
  clear hown1 hgrow1 hx' hown hlow1
  go_wp2
  go_loopw [1, 5] (fun n out wr => ∃ (m : Nat) (ys : List Int), n = .int .u64 m ∧ PInv w xs v m ys out wr) (fun n _ _ => (intOf n).toNat)
  case atStart => exact ⟨v, xs, rfl, HS.out⟩
  case round =>
    obtain ⟨m, ys, rfl, hown, hlow, heq, hle, hroom⟩ := hrel
    clear HS
    have HQ := Lib.hid heq
    obtain ⟨ao, co, rfl, hio⟩ := ints_own hown
    clear heq hio
    by_cases h : m < 128
    · have d1 : decide ((m : Int) ≥ 128) = false := decide_eq_false (by omega)
      have e1 := putN_lt h
      have HP := Lib.hid (HQ.out.trans (by rw [e1]))
      have HL : ys.length ≤ 2000003 := by omega
      rw [e1] at hroom
      simp only [List.length_singleton] at hroom
      clear e1
      go_wp2_with (at_builtin; refine wpList_append_own _ rfl _ _ 22 rfl w.heap.size 5 i0 (.int .u8 0) 1 1 Try.underlying22 hi hz0 hz1 hz2 rfl (by decide) _ ys.length (ys.map (Value.int .u8)) rfl (hown.alloc _) ⟨wr.heap.size, 0, none⟩ 1 1 [.int .u8 m] rfl rfl (cell_one_new _ _ _) (by simp [Value.oneCell']) (by unfold maxLen; omega) (by omega) (by have := hlow.size; simp; omega) ?_)
      intro v3 w3 hown3 hgrow3 _
      have hlow3 : Below w.heap.size w w3 := below_app (below_alloc hlow _) hgrow3 (hown.alloc _)
      have HO3 := Lib.hid (own_snoc (m := (ys ++ [(m : Int)]).length) hown3 (by simp only [List.length_append, List.length_singleton] <;> omega))
      clear hown3 hgrow3 hown
      go_wp2
      go_ret
      exact ⟨_, rfl, by rw [HP.out]; exact HO3.out, hlow3⟩
    · have d1 : decide ((m : Int) ≥ 128) = true := decide_eq_true (by omega)
      have e1 := putN_ge h
      have hp1 : (putN m).length = 1 + (putN (m / 128)).length := by rw [e1]; simp; omega
      have hp2 := putN_pos (m / 128)
      have HP := Lib.hid (HQ.out.trans (show ys ++ putN m = (ys ++ [((m % 128 + 128 : Nat) : Int)]) ++ putN (m / 128) by rw [e1]; simp))
      have HL : ys.length ≤ 2000003 := by omega
      clear e1
      have ex : ((m % 128 + 128 : Nat) : Int) = (m : Int) % 128 + 128 := by omega
      rw [ex] at HP
      go_wp2_with (at_builtin; refine wpList_append_own _ rfl _ _ 22 rfl w.heap.size 5 i0 (.int .u8 0) 1 1 Try.underlying22 hi hz0 hz1 hz2 rfl (by decide) _ ys.length (ys.map (Value.int .u8)) rfl (hown.alloc _) ⟨wr.heap.size, 0, none⟩ 1 1 [.int .u8 ((m : Int) % 128 + 128)] rfl rfl (cell_one_new _ _ _) (by simp [Value.oneCell']) (by unfold maxLen; omega) (by omega) (by have := hlow.size; simp; omega) ?_)
      intro v3 w3 hown3 hgrow3 _
      have hlow3 : Below w.heap.size w w3 := below_app (below_alloc hlow _) hgrow3 (hown.alloc _)
      have HO3 := Lib.hid (own_snoc (m := (ys ++ [(m : Int) % 128 + 128]).length) hown3 (by simp only [List.length_append, List.length_singleton] <;> omega))
      clear hown3 hgrow3 hown
      go_wp2
      go_roundw
      case rel => exact ⟨m / 128, _, by go_num, HO3.out, hlow3, HP.out, by omega, by first | (simp only [List.length_append, List.length_singleton]; omega) | simp⟩
      case measure => simp [intOf]; omega
end Go.Proofs.Ytbihkkaikcfilaa
