/- The law LzUnpacks. -/
import Derived.Test.YtbihkkaikcfilaaL7
namespace Go.Proofs.Ytbihkkaikcfilaa
open Go.RowKit
set_option linter.unusedVariables false
set_option linter.unusedSimpArgs false

theorem unpacks_law (most : Int) (a : Option Addr) (c : Nat) (xs : List Int) (w : World) (hx : Ints .u8 w a xs) (hb : AllB xs) (hc : xs.length ≤ c) (hm1 : most ≤ 9223372036854775807) (hm2 : -9223372036854775808 ≤ most) :
    Calls Try.prog 3 #[.slice a xs.length c, .int .i64 most] w fun e w' => e = .returned (.bool true) ∧ Below w.heap.size w w' := by
  by_cases h : 4096 < xs.length
  · have d1 : decide ((xs.length : Int) > 4096) = true := decide_eq_true (by omega)
    clear hx hb
    go_enter Try.func3, Try.ntmps3
    go_wp2_with fail
    refine (lives_any _).mono ?_
    rintro e w1 ⟨rfl, hb1⟩
    go_wp2
    go_ret
    exact ⟨rfl, hb1⟩
  have d1 : decide ((xs.length : Int) > 4096) = false := decide_eq_false (by omega)
  have d1' : decide (4096 < xs.length) = false := decide_eq_false (by omega)
  by_cases h2 : 65536 < most
  · have d2 : decide (most > 65536) = true := decide_eq_true h2
    clear hx hb
    go_enter Try.func3, Try.ntmps3
    go_wp2_with fail
    refine (lives_any _).mono ?_
    rintro e w1 ⟨rfl, hb1⟩
    go_wp2
    go_ret
    exact ⟨rfl, hb1⟩
  have d2 : decide (most > 65536) = false := decide_eq_false h2
  have R1 : Hid (∀ wx, Below w.heap.size w wx → _) := Lib.hid fun wx (hw : Below w.heap.size w wx) => unpack_any most a c xs wx (hx.below hw) hb hc (by omega) (by omega) hm2
  have R2 : Hid (∀ wx, Below w.heap.size w wx → _) := Lib.hid fun wx (hw : Below w.heap.size w wx) => runpack_any most a c xs wx (hx.below hw) hb hc (by omega) (by omega) hm2
  have R3 : Hid (∀ wx, Below w.heap.size w wx → _) := Lib.hid fun wx (hw : Below w.heap.size w wx) => size_any most a c xs wx (hx.below hw) hb hc (by omega) (by omega) hm2
  have R4 : Hid (∀ wx, Below w.heap.size w wx → _) := Lib.hid fun wx (hw : Below w.heap.size w wx) => rsize_any most a c xs wx (hx.below hw) hb hc (by omega) (by omega) hm2
  clear hx hb
  generalize unp xs most 0 [] = u at *
  obtain ⟨o, er⟩ := u
  go_enter Try.func3, Try.ntmps3
  go_wp2_with fail
  refine (lives_any _).mono ?_
  rintro e w1 ⟨rfl, hb1⟩
  have R1 := Lib.hid (R1.out _ hb1)
  go_wp2_with fail
  refine R1.out.mono ?_
  rintro e w2 ⟨v, rfl, hown, hbx⟩
  obtain ⟨ao, co, rfl, hio⟩ := ints_own hown
  have hb2 := Below.next hb1 hbx
  have R2 := Lib.hid (R2.out _ hb2)
  clear hown hbx
  go_wp2_with fail
  refine R2.out.mono ?_
  rintro e w3 ⟨v2, rfl, hown, hbx⟩
  obtain ⟨ao2, co2, rfl, hio2⟩ := ints_own hown
  have hb3 := Below.next hb2 hbx
  have hio := hio.below hbx
  have R3 := Lib.hid (R3.out _ hb3)
  clear hown hbx
  go_wp2_with fail
  refine R3.out.mono ?_
  rintro e w4 ⟨rfl, hbx⟩
  have hb4 := Below.next hb3 hbx
  have hio := hio.below hbx
  have hio2 := hio2.below hbx
  have R4 := Lib.hid (R4.out _ hb4)
  clear hbx
  go_wp2_with fail
  refine R4.out.mono ?_
  rintro e w5 ⟨rfl, hbx⟩
  have hb5 := Below.next hb4 hbx
  have hcv := conv_ints ao co _ o w5 (hio.below hbx) rfl
  have hcv2 := conv_ints ao2 co2 _ o w5 (hio2.below hbx) rfl
  have HB := Lib.hid hb5
  clear hb1 hb2 hb3 hb4 hb5 hbx hio hio2 R1 R2 R3 R4
  generalize strOfNums o = so at *
  go_wp2
  go_ret
  exact ⟨rfl, HB.out⟩
end Go.Proofs.Ytbihkkaikcfilaa
