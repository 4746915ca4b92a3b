/- codec's groups, put and PutUint: a slice and a number's bytes behind it. -/
import Derived.Test.YtbihkkaikcfilaaL8
import Derived.Test.YtbihkkaikcfilaaP2
namespace Go.Proofs.Ytbihkkaikcfilaa
open Go.RowKit
set_option linter.unusedVariables false
set_option linter.unusedSimpArgs false

structure GInv (w : World) (v m : Nat) (ys : List Int) (out : Value) (wr : World) : Prop where
  own : wr.ownsRow w.heap.size 5 1 out ys.length (ys.map (Value.int .u8))
  low : Below w.heap.size w wr
  eq : putN v = ys ++ putN m
  le : m ≤ v
  room : ys.length + (putN m).length = (putN v).length
set_option maxRecDepth 100000 in
set_option maxHeartbeats 8000000 in
theorem groups_any (v : Nat) (w : World) (hv : v < 2097152) :
    Calls Try.prog 26 #[.int .u64 v] w fun e w' => ∃ r, e = .returned r ∧ w'.ownsRow w.heap.size 5 1 r (putN v).length ((putN v).map (Value.int .u8)) ∧ Below w.heap.size w w' := by
  obtain ⟨i0, hi, hz0, hz1, hz2⟩ := info_parts info5
  have hpl := putN_len v hv
  have HS : Hid (GInv w v v [] (.slice none 0 0) w) := ⟨World.ownsRow_nil _ _ _ _, Below.refl _ _, rfl, Nat.le_refl _, by simp⟩
  go_enter Try.func26, Try.ntmps26
  go_wp2
  go_loopw [0, 3] (fun n out wr => ∃ (m : Nat) (ys : List Int), n = .int .u64 m ∧ GInv w v m ys out wr) (fun n _ _ => (intOf n).toNat)
  case atStart => exact ⟨v, [], rfl, HS.out⟩
  case round =>
    obtain ⟨m, ys, rfl, hown, hlow, heq, hle, hroom⟩ := hrel
    clear HS
    have HQ := Lib.hid heq
    obtain ⟨ao, co, rfl, hio⟩ := ints_own hown
    clear heq hio
    by_cases h : m < 128
    · have d1 : decide ((m : Int) ≥ 128) = false := decide_eq_false (by omega)
      have e1 := putN_lt h
      have HP := Lib.hid (HQ.out.trans (by rw [e1]))
      have HL : ys.length ≤ 3 := by omega
      rw [e1] at hroom
      simp only [List.length_singleton] at hroom
      have HRm := Lib.hid hroom
      clear e1 hroom
      go_wp2_with (at_builtin; refine wpList_append_own _ rfl _ _ 22 rfl w.heap.size 5 i0 (.int .u8 0) 1 1 Try.underlying22 hi hz0 hz1 hz2 rfl (by decide) _ ys.length (ys.map (Value.int .u8)) rfl (hown.alloc _) ⟨wr.heap.size, 0, none⟩ 1 1 [.int .u8 m] rfl rfl (cell_one_new _ _ _) (by simp [Value.oneCell']) (by unfold maxLen; omega) (by omega) (by have := hlow.size; simp; omega) ?_)
      intro v3 w3 hown3 hgrow3 _
      have hlow3 : Below w.heap.size w w3 := below_app (below_alloc hlow _) hgrow3 (hown.alloc _)
      have HO3 := Lib.hid (own_snoc (m := (ys ++ [(m : Int)]).length) hown3 (by simp only [List.length_append, List.length_singleton] <;> omega))
      clear hown3 hgrow3 hown
      go_wp2
      go_ret
      exact ⟨_, rfl, by rw [HP.out]; exact HO3.out, hlow3⟩
    · have d1 : decide ((m : Int) ≥ 128) = true := decide_eq_true (by omega)
      have e1 := putN_ge h
      have hp1 : (putN m).length = 1 + (putN (m / 128)).length := by rw [e1]; simp; omega
      have hp2 := putN_pos (m / 128)
      have HP := Lib.hid (HQ.out.trans (show ys ++ putN m = (ys ++ [((m % 128 + 128 : Nat) : Int)]) ++ putN (m / 128) by rw [e1]; simp))
      have HL : ys.length ≤ 3 := by omega
      have hrm : ys.length + 1 + (putN (m / 128)).length = (putN v).length := by omega
      have HRm := Lib.hid hrm
      clear e1 hroom hrm hp1
      have ex : ((m % 128 + 128 : Nat) : Int) = (m : Int) % 128 + 128 := by omega
      rw [ex] at HP
      go_wp2_with (at_builtin; refine wpList_append_own _ rfl _ _ 22 rfl w.heap.size 5 i0 (.int .u8 0) 1 1 Try.underlying22 hi hz0 hz1 hz2 rfl (by decide) _ ys.length (ys.map (Value.int .u8)) rfl (hown.alloc _) ⟨wr.heap.size, 0, none⟩ 1 1 [.int .u8 ((m : Int) % 128 + 128)] rfl rfl (cell_one_new _ _ _) (by simp [Value.oneCell']) (by unfold maxLen; omega) (by omega) (by have := hlow.size; simp; omega) ?_)
      intro v3 w3 hown3 hgrow3 _
      have hlow3 : Below w.heap.size w w3 := below_app (below_alloc hlow _) hgrow3 (hown.alloc _)
      have HO3 := Lib.hid (own_snoc (m := (ys ++ [(m : Int) % 128 + 128]).length) hown3 (by simp only [List.length_append, List.length_singleton] <;> omega))
      clear hown3 hgrow3 hown
      go_wp2
      go_roundw
      case rel => exact ⟨m / 128, _, by go_num, HO3.out, hlow3, HP.out, by omega, by rw [List.length_append, List.length_singleton]; exact HRm.out⟩
      case measure => simp [intOf]; omega

structure PutInv (w : World) (xs ys : List Int) (k : Nat) (out : Value) (wr : World) : Prop where
  own : wr.ownsRow w.heap.size 5 1 out (if k = 0 then xs else xs ++ ys).length ((if k = 0 then xs else xs ++ ys).map (Value.int .u8))
  low : Below w.heap.size w wr
set_option maxRecDepth 100000 in
set_option maxHeartbeats 8000000 in
theorem put_any (a : Option Addr) (c : Nat) (xs : List Int) (p : Addr) (b : Option Addr) (d : Nat) (ys : List Int) (w : World) (hx : Ints .u8 w a xs) (hc : xs.length ≤ c) (hnil : a = none → c = 0) (hl : xs.length ≤ 2000000)
    (hp : w.cell? p = some (.slice b ys.length d)) (hy : Ints .u8 w b ys) (hd : ys.length ≤ d) (hnil2 : b = none → d = 0) (hl2 : ys.length ≤ 2000000) :
    Calls Try.prog 25 #[.slice a xs.length c, .slice (some p) 1 1] w fun e w' => ∃ r, e = .returned r ∧ w'.ownsRow w.heap.size 5 1 r (xs ++ ys).length ((xs ++ ys).map (Value.int .u8)) ∧ Below w.heap.size w w' := by
  obtain ⟨i0, hi, hz0, hz1, hz2⟩ := info_parts info5
  have hx' : Vals (w.alloc (.cells #[] 5)) a (xs.map (Value.int .u8)) := (hx.below ((Below.refl _ _).alloc (Nat.le_refl _) _)).vals
  have hown : (w.alloc (.cells #[] 5)).ownsRow w.heap.size 5 1 (.slice (some ⟨w.heap.size, 0, none⟩) 0 0) 0 [] := World.ownsRow_lit (base := w.heap.size) (e := 5) (size := 1) w #[] 0 (Nat.le_refl _) (by unfold maxLen; omega) rfl
  have PP : Hid (∀ wx, Below w.heap.size w wx → wx.cell? p = some (.slice b ys.length d)) := Lib.hid fun wx hb => by rw [hb.cell (World.block_lt_of_cell? _ _ hp)]; exact hp
  have YY : Hid (∀ wx, Below w.heap.size w wx → Vals wx b (ys.map (Value.int .u8))) := Lib.hid fun wx hb => (hy.below hb).vals
  clear hx hp hy
  go_enter Try.func25, Try.ntmps25
  go_wp2_with (at_builtin; refine wpList_append_vals _ rfl _ _ 22 rfl w.heap.size 5 i0 (.int .u8 0) 1 Try.underlying22 hi hz0 hz1 hz2 rfl _ 0 [] rfl hown a c xs.length (xs.map (Value.int .u8)) (by simp) rfl hx' (ints_oneCell _ _) hnil (by unfold maxLen; omega) (by omega) (by simp) ?_)
  intro v1 w1 hown1 hgrow1
  have hlow1 : Below w.heap.size w w1 := below_app ((Below.refl _ _).alloc (Nat.le_refl _) _) hgrow1 hown
  have HS : Hid (PutInv w xs ys 0 v1 w1) := ⟨by simpa using hown1, hlow1⟩
  clear hown1 hgrow1 hx' hown hlow1
  go_wp2
  go_loopw [5, 13] (fun out i wr => ∃ k : Nat, i = .int .i64 k ∧ k ≤ 1 ∧ PutInv w xs ys k out wr) (fun _ i _ => 1 - (intOf i).toNat)
  case atStart => exact ⟨0, rfl, by omega, HS.out⟩
  case round =>
    obtain ⟨k, rfl, hk, hown, hlow⟩ := hrel
    clear HS
    rcases (show k = 0 ∨ k = 1 by omega) with rfl | rfl
    · rw [if_pos rfl] at hown
      have c0 := PP.out _ hlow
      obtain ⟨ao, co, rfl, hio⟩ := ints_own hown
      clear hio
      have hadd : p.add 0 = p := rfl
      go_wp2_with (at_builtin; refine wpList_append_vals _ rfl _ _ 22 rfl w.heap.size 5 i0 (.int .u8 0) 1 Try.underlying22 hi hz0 hz1 hz2 rfl _ xs.length (xs.map (Value.int .u8)) rfl hown b d ys.length (ys.map (Value.int .u8)) (by simp) rfl (YY.out _ hlow) (ints_oneCell _ _) hnil2 (by unfold maxLen; omega) (by omega) hlow.size ?_)
      intro v3 w3 hown3 hgrow3
      have hlow3 : Below w.heap.size w w3 := below_app hlow hgrow3 hown
      have HO3 : Hid (w3.ownsRow w.heap.size 5 1 v3 (xs ++ ys).length ((xs ++ ys).map (Value.int .u8))) := by
        rw [List.length_append, List.map_append]; exact hown3
      clear hown3 hgrow3 hown
      go_wp2
      go_roundw
      case rel => exact ⟨1, by go_num, by omega, by rw [if_neg (by omega)]; exact HO3.out, hlow3⟩
      case measure => simp [intOf] <;> omega
    · rw [if_neg (by omega)] at hown
      have HO := Lib.hid hown
      clear hown
      go_wp2
      go_ret
      exact ⟨_, rfl, HO.out, hlow⟩

set_option maxRecDepth 100000 in
theorem cput_any (v : Nat) (a : Option Addr) (c : Nat) (xs : List Int) (w : World) (hx : Ints .u8 w a xs) (hc : xs.length ≤ c) (hnil : a = none → c = 0) (hl : xs.length ≤ 2000000) (hv : v < 2097152) :
    Calls Try.prog 21 #[.slice a xs.length c, .int .u64 v] w fun e w' => ∃ r, e = .returned r ∧ w'.ownsRow w.heap.size 5 1 r (xs ++ putN v).length ((xs ++ putN v).map (Value.int .u8)) ∧ Below w.heap.size w w' := by
  have hpl := putN_len v hv
  have G := Lib.hid (groups_any v w hv)
  have HX := Lib.hid hx
  clear hx
  go_enter Try.func21, Try.ntmps21
  go_wp2_with fail
  refine G.out.mono ?_
  rintro e w1 ⟨r, rfl, hown, hb1⟩
  obtain ⟨ar, cr, rfl, hir⟩ := ints_own hown
  have hcp := own_cap hown
  have hnl := own_nil hown
  have P := Lib.hid (put_any a c xs ⟨w1.heap.size, 0, none⟩ ar cr (putN v) (w1.alloc (.cells #[.slice ar (putN v).length cr] 22)) ((HX.out.below hb1).below (below_alloc (Below.refl _ _) _)) hc hnil hl (by rw [World.cell?_alloc_mark]; rfl) (hir.below (below_alloc (Below.refl _ _) _)) hcp hnl (by omega))
  have hsz : w.heap.size ≤ (w1.alloc (.cells #[.slice ar (putN v).length cr] 22)).heap.size := by have := hb1.size; simp; omega
  clear hown hir hcp hnl
  go_wp2_with fail
  refine P.out.mono ?_
  rintro e w2 ⟨r2, rfl, hown2, hb2⟩
  have HO := Lib.hid (ownsRow_mono hown2 hsz)
  have hb3 := Below.next (below_alloc hb1 _) hb2
  clear hown2 P
  go_wp2
  go_ret
  exact ⟨_, rfl, HO.out, hb3⟩
end Go.Proofs.Ytbihkkaikcfilaa
