/- An ask that came in by value. -/
import Derived.Test.YtdfnpknekjgkiaaB1
import Derived.Lib.SmallJoins
namespace Go.Proofs.Ytdfnpknekjgkiaa
open Go.Joins Go.ChangeShapes Go.WideShapes Go.RowKit Go.Deep
set_option linter.unusedVariables false
set_option linter.unusedSimpArgs false
section
variable {H : Type} {enc : TypeId × Value → H} {w : World} {base : Nat} {spare : Nat → Bool} {held : Bool}
theorem int_at' {n : Nat} {v : Value} {y : DataW H × List MemPlace} (h : DataW.trod enc Try.prog w base spare held n 3 [v] = some y) : ∃ z : Int, v = .int .i64 z ∧ -9223372036854775808 ≤ z ∧ z ≤ 9223372036854775807 := by
  obtain ⟨z, h1, _, h3⟩ := DataW.trod_int Try.underlying3 h
  have h1 : v = .int .i64 z := by simpa using h1
  exact ⟨z, h1, wf_i64 h3⟩
theorem str_at' {n : Nat} {v : Value} {y : DataW H × List MemPlace} (h : DataW.trod enc Try.prog w base spare held n 9 [v] = some y) : ∃ z : ByteArray, v = .string z ∧ z.size ≤ maxLen := by
  obtain ⟨z, h1, _, h3⟩ := DataW.trod_string Try.underlying9 h
  exact ⟨z, by simpa using h1, h3⟩
theorem ask_of {r : Reach} {b0 : Nat} {v : Value} {d : DataW H} {p : List MemPlace} (hv : Value.okWide Try.prog w r b0 46 v) (h : DataW.Trod enc Try.prog w base spare held 46 v d p) : ∃ (t : ByteArray) (n : Int), v = .agg #[.string t, .int .i64 n] ∧ (-9223372036854775808 ≤ n ∧ n ≤ 9223372036854775807) := by
  obtain ⟨v0, v1, y0, y1, n, rfl, _, _, h0, h1⟩ := open_agg2 Try.underlying46 (by kernel_rfl) (by kernel_rfl) hv h
  obtain ⟨z0, rfl, _⟩ := str_at' h0
  obtain ⟨z1, rfl, w1⟩ := int_at' h1
  exact ⟨z0, z1, rfl, w1⟩
end
end Go.Proofs.Ytdfnpknekjgkiaa
