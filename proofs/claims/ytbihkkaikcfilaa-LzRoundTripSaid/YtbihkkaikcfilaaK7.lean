/- The laws LzRoundTrip, LzBounded, LzShrinks. -/
import Derived.Test.YtbihkkaikcfilaaK6
namespace Go.Proofs.Ytbihkkaikcfilaa
open Go.RowKit
set_option linter.unusedVariables false
set_option linter.unusedSimpArgs false

set_option maxRecDepth 100000 in
set_option maxHeartbeats 8000000 in
theorem round_law (more : Int) (a : Option Addr) (c : Nat) (xs : List Int) (w : World) (hx : Ints .u8 w a xs) (hb : AllB xs) (hc : xs.length ≤ c) (hnil : a = none → c = 0) (hm1 : 0 ≤ more) (hm2 : more ≤ 255) :
    Calls Try.prog 5 #[.slice a xs.length c, .int .u8 more] w fun e w' => e = .returned (.bool true) ∧ Below w.heap.size w w' := by
  by_cases h : 65536 < xs.length
  · have d1 : decide ((xs.length : Int) > 65536) = true := decide_eq_true (by omega)
    clear hx hb
    go_enter Try.func5, Try.ntmps5
    go_wp2_with fail
    refine (lives_any _).mono ?_
    rintro e w1 ⟨rfl, hb1⟩
    go_wp2
    go_ret
    exact ⟨rfl, hb1⟩
  have d1 : decide ((xs.length : Int) > 65536) = false := decide_eq_false (by omega)
  have d1' : decide (65536 < xs.length) = false := decide_eq_false (by omega)
  obtain ⟨i0, hi, hz0, hz1, hz2⟩ := info_parts info5
  have HX := Lib.hid hx
  have HB := Lib.hid hb
  clear hx hb
  go_enter Try.func5, Try.ntmps5
  go_wp2_with fail
  refine (lives_any _).mono ?_
  rintro e w1 ⟨rfl, hb1⟩
  have hx1 : Vals (w1.alloc (.cells #[] 5)) a (xs.map (Value.int .u8)) := (HX.out.below (below_alloc hb1 _)).vals
  have hown0 : (w1.alloc (.cells #[] 5)).ownsRow w.heap.size 5 1 (.slice (some ⟨w1.heap.size, 0, none⟩) 0 0) 0 [] := World.ownsRow_lit (base := w.heap.size) (e := 5) (size := 1) w1 #[] 0 hb1.size (by unfold maxLen; omega) rfl
  go_wp2_with (at_builtin; refine wpList_append_vals _ rfl _ _ 22 rfl w.heap.size 5 i0 (.int .u8 0) 1 Try.underlying22 hi hz0 hz1 hz2 rfl _ 0 [] rfl hown0 a c xs.length (xs.map (Value.int .u8)) (by simp) rfl hx1 (ints_oneCell _ _) hnil (by unfold maxLen; omega) (by omega) (by have := hb1.size; simp; omega) ?_)
  intro v2 w2 hown2 hgrow2
  have hb2 : Below w.heap.size w w2 := below_app (below_alloc hb1 _) hgrow2 hown0
  have hown2 : w2.ownsRow w.heap.size 5 1 v2 xs.length (xs.map (Value.int .u8)) := by simpa using hown2
  obtain ⟨a2, c2, rfl, hi2⟩ := ints_own hown2
  have PK := Lib.hid (pack_any a2 c2 xs w2 hi2 (own_cap hown2) (own_nil hown2) (by omega))
  have HB2 := Lib.hid hb2
  clear hown2 hgrow2 hown0 hx1 hb1 hi2 hb2
  go_wp2_with fail
  refine PK.out.mono ?_
  rintro e w3 ⟨r, p, rfl, hp, hown3, hb3⟩
  have hu := pack_unp hp HB.out ((xs.length : Int) + more) (by omega)
  have hpl := hp.len
  have hpn := hp.nil
  have hpa : AllB p := hp.all HB.out
  obtain ⟨a3, c3, rfl, hi3⟩ := ints_own hown3
  have hpc := own_cap hown3
  have hb3' := Below.next HB2.out hb3
  have U := unpack_any ((xs.length : Int) + more) a3 c3 p w3 hi3 hpa hpc (by omega) (by omega) (by omega)
  have Z : ∀ wx, Below w3.heap.size w3 wx → _ := fun wx (hw : Below w3.heap.size w3 wx) => size_any ((xs.length : Int) + more) a3 c3 p wx (hi3.below hw) hpa hpc (by omega) (by omega) (by omega)
  rw [hu] at U Z
  have HU := Lib.hid U
  have HZ := Lib.hid Z
  have HB3 := Lib.hid hb3'
  clear hi3 hown3 hb3 hb3' hp hpa hpc hu U Z PK
  go_wp2_with fail
  refine HU.out.mono ?_
  rintro e w4 ⟨v4, rfl, hown4, hb4⟩
  obtain ⟨a4, c4, rfl, hi4⟩ := ints_own hown4
  have Z := Lib.hid (HZ.out w4 hb4)
  have hb4' := Below.next HB3.out hb4
  clear hown4 HU HZ hb4
  go_wp2_with fail
  refine Z.out.mono ?_
  rintro e w5 ⟨rfl, hb5⟩
  have hb5' := Below.next hb4' hb5
  have hcv := conv_ints a4 c4 _ xs w5 (hi4.below hb5) rfl
  have hcv2 := conv_ints a c _ xs w5 (HX.out.below hb5') rfl
  have HB5 := Lib.hid hb5'
  clear hb5 hb5' hb4' hi4 Z
  generalize strOfNums xs = so at *
  by_cases h0 : 0 < xs.length
  · have d2 : decide ((xs.length : Int) > 0) = true := decide_eq_true (by omega)
    have d2' : decide (0 < xs.length) = true := decide_eq_true h0
    clear hpn
    go_wp2
    go_ret
    exact ⟨rfl, HB5.out⟩
  · have d2 : decide ((xs.length : Int) > 0) = false := decide_eq_false (by omega)
    have d2' : decide (0 < xs.length) = false := decide_eq_false h0
    obtain rfl := hpn (List.eq_nil_of_length_eq_zero (by omega))
    go_wp2
    go_ret
    exact ⟨rfl, HB5.out⟩
end Go.Proofs.Ytbihkkaikcfilaa
