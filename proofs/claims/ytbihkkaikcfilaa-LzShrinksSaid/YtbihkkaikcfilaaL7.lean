/- refSize, Bound, string(b), and lives. -/
import Derived.Test.YtbihkkaikcfilaaL6
import Derived.Laws.BytesArg
namespace Go.Proofs.Ytbihkkaikcfilaa
open Go.RowKit
set_option linter.unusedVariables false
set_option linter.unusedSimpArgs false

theorem own_lit (w w1 : World) (hb : Below w.heap.size w w1) (xs : List Int) (hl : xs.length ≤ 1000) : (w1.alloc (.cells (xs.map (Value.int .u8)).toArray 5)).ownsRow w.heap.size 5 1 (.slice (some ⟨w1.heap.size, 0, none⟩) xs.length xs.length) xs.length (xs.map (Value.int .u8)) := by
  have := World.ownsRow_lit (base := w.heap.size) (e := 5) (size := 1) w1 (xs.map (Value.int .u8)).toArray xs.length hb.size (by unfold maxLen; omega) (by simp)
  simpa using this

theorem rsize_any (most : Int) (a : Option Addr) (c : Nat) (xs : List Int) (w : World) (hx : Ints .u8 w a xs) (hb : AllB xs) (hc : xs.length ≤ c) (hl : xs.length ≤ 1000000) (hm1 : most ≤ 1000000) (hm2 : -9223372036854775808 ≤ most) :
    Calls Try.prog 12 #[.slice a xs.length c, .int .i64 most] w fun e w' => e = .returned (.tuple #[.int .i64 (unp xs most 0 []).1.length, .int .i64 (unp xs most 0 []).2]) ∧ Below w.heap.size w w' := by
  have R := Lib.hid (runpack_any most a c xs w hx hb hc hl hm1 hm2)
  clear hx hb
  generalize unp xs most 0 [] = u at *
  obtain ⟨o, er⟩ := u
  go_enter Try.func12, Try.ntmps12
  go_wp2_with fail
  refine R.out.mono ?_
  rintro e w1 ⟨v, rfl, hown, hb1⟩
  obtain ⟨ao, co, rfl, hio⟩ := ints_own hown
  clear R hown
  go_wp2
  go_ret2
  exact ⟨rfl, hb1⟩

theorem bound_any (n : Int) (h1 : -9223372036854775808 ≤ n) (h2 : n ≤ 4294967296) (w : World) : Calls Try.prog 15 #[.int .i64 n] w fun e w' => e = .returned (.int .i64 (if n ≤ 0 then 0 else n + 10)) ∧ w' = w := by
  go_enter Try.func15, Try.ntmps15
  by_cases h : n ≤ 0
  · rw [if_pos h]
    go_wp2
    go_ret
    exact ⟨rfl, rfl⟩
  · rw [if_neg h]
    go_wp2
    go_ret
    exact ⟨rfl, rfl⟩
theorem rbound_any (n : Int) (h1 : -9223372036854775808 ≤ n) (h2 : n ≤ 4294967296) (w : World) : Calls Try.prog 16 #[.int .i64 n] w fun e w' => e = .returned (.int .i64 (if n ≤ 0 then 0 else n + 10)) ∧ w' = w := by
  go_enter Try.func16, Try.ntmps16
  by_cases h : n ≤ 0
  · rw [if_pos h]
    go_wp2
    go_ret
    exact ⟨rfl, rfl⟩
  · rw [if_neg h]
    go_wp2
    go_ret
    exact ⟨rfl, rfl⟩

/-- string(b) -/
theorem conv_ints (a : Option Addr) (c n : Nat) (xs : List Int) (w : World) (hx : Ints .u8 w a xs) (hn : xs.length = n) : (convert 22 9 (.slice a n c)).run Try.prog w = .ok (.string (strOfNums xs)) w := by
  subst hn
  rw [run_convert_bytes_string w 22 9 5 a _ c Try.underlying22 Try.underlying5 Try.underlying9]
  rcases hx with rfl | ⟨x, rfl, h⟩
  · cases a with
    | none => simp [Conv.bytesToString]; rfl
    | some x =>
      have hl : (loadCells x 0).run Try.prog w = .ok (([] : List Int).map (Value.int .u8)).toArray w := run_loadCells_list (P := Try.prog) w x [] (fun j v hj => by simp at hj)
      rw [List.length_nil, run_bytesToString w x 0 c [] hl]
      rfl
  · have hl : (loadCells x xs.length).run Try.prog w = .ok (xs.map (Value.int .u8)).toArray w := by
      have := run_loadCells_list (P := Try.prog) w x (xs.map (Value.int .u8)) (fun j v hj => by
        obtain ⟨hl, rfl⟩ := List.getElem?_eq_some_iff.1 hj
        simp at hl
        rw [h j hl]; simp [hl])
      simpa using this
    rw [run_bytesToString w x xs.length c xs hl, foldl_push_bytes]
    simp [strOfNums, ByteArray.empty, ByteArray.emptyWithCapacity]
    rfl

theorem unp_ex : unp [4, 97, 98, 9, 2] 6 0 [] = ([97, 98, 97, 98, 97, 98], 0) := by
  have hb : ∀ x ∈ ([4, 97, 98, 9, 2] : List Int), 0 ≤ x ∧ x ≤ 255 := by decide
  rw [unp_lit _ 6 0 [] hb (by decide) (by decide) (by decide)]
  show unp _ 6 3 [97, 98] = _
  rw [unp_cpy _ 6 3 _ hb (by decide) (by decide) (by decide)]
  show unp _ 6 5 [97, 98, 97, 98, 97, 98] = _
  rw [unp_end _ _ _ _ (by decide)]
theorem unp_ex2 : unp [3, 1] 9 0 [] = ([], 7) := by
  rw [unp_err _ 9 0 [] (by decide) (by decide)]
  rfl

theorem lives_any (w : World) : Calls Try.prog 8 #[] w fun e w' => e = .returned (.bool true) ∧ Below w.heap.size w w' := by
  have A1 : ∀ w1 : World, Hid (Calls Try.prog 9 #[.slice (some ⟨w1.heap.size, 0, none⟩) 5 5, .int .i64 6] (w1.alloc (.cells #[.int .u8 4, .int .u8 97, .int .u8 98, .int .u8 9, .int .u8 2] 5)) fun e w' => ∃ v, e = .returned (.tuple #[v, .int .i64 0]) ∧ w'.ownsRow (w1.alloc (.cells #[.int .u8 4, .int .u8 97, .int .u8 98, .int .u8 9, .int .u8 2] 5)).heap.size 5 1 v 6 (([97, 98, 97, 98, 97, 98] : List Int).map (Value.int .u8)) ∧ Below w1.heap.size w1 w') := fun w1 => by
    have h := unpack_any 6 (some ⟨w1.heap.size, 0, none⟩) 5 [4, 97, 98, 9, 2] (w1.alloc (.cells #[.int .u8 4, .int .u8 97, .int .u8 98, .int .u8 9, .int .u8 2] 5)) (ints_alloc w1 .u8 [4, 97, 98, 9, 2] 5) (by unfold AllB; decide) (by decide) (by decide) (by decide) (by decide)
    rw [unp_ex] at h
    exact Lib.hid (h.mono fun e w' ⟨v, h1, h2, h3⟩ => ⟨v, h1, h2, Below.next (below_alloc (Below.refl _ _) _) h3⟩)
  have A2 : ∀ w1 : World, Hid (Calls Try.prog 9 #[.slice (some ⟨w1.heap.size, 0, none⟩) 2 2, .int .i64 9] (w1.alloc (.cells #[.int .u8 3, .int .u8 1] 5)) fun e w' => ∃ v, e = .returned (.tuple #[v, .int .i64 7]) ∧ Below w1.heap.size w1 w') := fun w1 => by
    have h := unpack_any 9 (some ⟨w1.heap.size, 0, none⟩) 2 [3, 1] (w1.alloc (.cells #[.int .u8 3, .int .u8 1] 5)) (ints_alloc w1 .u8 [3, 1] 5) (by unfold AllB; decide) (by decide) (by decide) (by decide) (by decide)
    rw [unp_ex2] at h
    exact Lib.hid (h.mono fun e w' ⟨v, h1, h2, h3⟩ => ⟨v, h1, Below.next (below_alloc (Below.refl _ _) _) h3⟩)
  have A3 : ∀ w1 : World, Hid (Calls Try.prog 11 #[.slice (some ⟨w1.heap.size, 0, none⟩) 5 5, .int .i64 6] (w1.alloc (.cells #[.int .u8 4, .int .u8 97, .int .u8 98, .int .u8 9, .int .u8 2] 5)) fun e w' => e = .returned (.tuple #[.int .i64 6, .int .i64 0]) ∧ Below w1.heap.size w1 w') := fun w1 => by
    have h := size_any 6 (some ⟨w1.heap.size, 0, none⟩) 5 [4, 97, 98, 9, 2] (w1.alloc (.cells #[.int .u8 4, .int .u8 97, .int .u8 98, .int .u8 9, .int .u8 2] 5)) (ints_alloc w1 .u8 [4, 97, 98, 9, 2] 5) (by unfold AllB; decide) (by decide) (by decide) (by decide) (by decide)
    rw [unp_ex] at h
    exact Lib.hid (h.mono fun e w' ⟨h1, h3⟩ => ⟨h1, Below.next (below_alloc (Below.refl _ _) _) h3⟩)
  have A4 := fun w1 => Lib.hid (bound_any 5 (by decide) (by decide) w1)
  go_enter Try.func8, Try.ntmps8
  go_wp2_with fail
  refine (A1 _).out.mono ?_
  rintro e w1 ⟨v, rfl, hown, hb1⟩
  obtain ⟨ao, co, rfl, hio⟩ := ints_own hown
  have HI := Lib.hid hio
  clear hown hio
  go_wp2_with fail
  refine (A2 _).out.mono ?_
  rintro e w2 ⟨v2, rfl, hb2⟩
  go_wp2_with fail
  refine (A3 _).out.mono ?_
  rintro e w3 ⟨rfl, hb3⟩
  have hcv := conv_ints ao co 6 _ w3 ((HI.out.below hb2).below hb3) rfl
  rw [show strOfNums [97, 98, 97, 98, 97, 98] = ({ data := #[97, 98, 97, 98, 97, 98] } : ByteArray) from rfl] at hcv
  have HB := Lib.hid (Below.next (Below.next hb1 hb2) hb3)
  clear HI hb1 hb2 hb3 A1 A2 A3
  go_wp2_with fail
  refine (A4 _).out.mono ?_
  rintro e w4 ⟨rfl, rfl⟩
  go_wp2
  go_ret
  exact ⟨rfl, HB.out⟩
end Go.Proofs.Ytbihkkaikcfilaa
