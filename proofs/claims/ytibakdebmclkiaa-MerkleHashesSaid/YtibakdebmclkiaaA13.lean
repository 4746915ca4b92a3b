/- Links of beginnings are accepted; the statements MerklePrefixes and MerkleGrows over any memory. -/
import Derived.Test.YtibakdebmclkiaaA12
namespace Go.Proofs.Ytibakdebmclkiaa
open Go.RowKit
set_option linter.unusedVariables false
set_option linter.unusedSimpArgs false

theorem root_node {l : List Int} (h : 2 ≤ l.length) : rootOf l = nodeOf (rootOf (l.take (splitOf l.length))) (rootOf (l.drop (splitOf l.length))) := by
  conv => lhs; rw [rootOf]
  rw [dif_neg (by omega), dif_neg (by omega)]

theorem splitOf_same {n m : Nat} (h2 : 2 ≤ n) (h : splitOf n < m) (hm : m ≤ n) : splitOf m = splitOf n := by
  have h3 := splitOf_ge h2
  unfold splitOf at h h3 ⊢
  exact splitOf_eq h (by omega)

theorem grow_link (d : Nat) : ∀ (l : List Int) (m : Nat) (top : Bool) (old : Int), l.length ≤ d → 1 ≤ m → m ≤ l.length → (top = true → old = rootOf (l.take m)) →
    growOf old m l.length (linkOf l m top) top = (rootOf (l.take m), rootOf l, true) := by
  induction d with
  | zero => intro l m top old hd h1 hm; omega
  | succ d ih =>
    intro l m top old hd h1 hm ho
    by_cases hmn : m = l.length
    · subst hmn
      rw [List.take_length] at ho ⊢
      cases top with
      | true => rw [ho rfl, linkOf, if_pos rfl, if_pos rfl, grow_end]; rfl
      | false => rw [linkOf, if_pos rfl, if_neg (by decide), grow_one _ _ _ rfl]; rfl
    · have s1 := splitOf_lt (n := l.length) (by omega)
      have s2 := splitOf_pos l.length
      have l1 : (l.take (splitOf l.length)).length = splitOf l.length := by rw [List.length_take]; omega
      have l2 : (l.drop (splitOf l.length)).length = l.length - splitOf l.length := List.length_drop
      by_cases hik : m ≤ splitOf l.length
      · have hp : linkOf l m top = linkOf (l.take (splitOf l.length)) m top ++ [rootOf (l.drop (splitOf l.length))] := by
          conv => lhs; rw [linkOf]
          rw [if_neg hmn, dif_neg (by omega), if_pos hik]
        have ht : (l.take (splitOf l.length)).take m = l.take m := by rw [List.take_take, Nat.min_eq_left hik]
        have r := ih (l.take (splitOf l.length)) m top old (by omega) h1 (by omega) (fun e => by rw [ht]; exact ho e)
        rw [l1, ht] at r
        rw [hp, growOf, if_neg hmn, dif_neg (by simp), if_pos hik]
        simp only [List.length_append, List.length_singleton, Nat.add_sub_cancel, List.take_left', List.getLast_concat, List.take_left, r, root_node (show 2 ≤ l.length by omega)]
      · have hp : linkOf l m top = linkOf (l.drop (splitOf l.length)) (m - splitOf l.length) false ++ [rootOf (l.take (splitOf l.length))] := by
          conv => lhs; rw [linkOf]
          rw [if_neg hmn, dif_neg (by omega), if_neg hik]
        have r := ih (l.drop (splitOf l.length)) (m - splitOf l.length) false old (by omega) (by omega) (by omega) (fun e => by cases e)
        rw [l2] at r
        have lm : (l.take m).length = m := by rw [List.length_take]; omega
        have hm2 : rootOf (l.take m) = nodeOf (rootOf (l.take (splitOf l.length))) (rootOf ((l.drop (splitOf l.length)).take (m - splitOf l.length))) := by
          rw [root_node (by omega), lm, splitOf_same (by omega) (by omega) hm, List.take_take, Nat.min_eq_left (by omega), List.drop_take]
        rw [hp, growOf, if_neg hmn, dif_neg (by simp), if_neg hik]
        simp only [List.length_append, List.length_singleton, Nat.add_sub_cancel, List.take_left', List.getLast_concat, List.take_left, r, hm2, root_node (show 2 ≤ l.length by omega)]

theorem extends_link (l : List Int) (m : Nat) (h1 : 1 ≤ m) (hm : m ≤ l.length) : extendsOf (rootOf (l.take m)) (rootOf l) m l.length (linkOf l m true) = true := by
  unfold extendsOf
  rw [if_neg (by omega), Int.toNat_natCast, Int.toNat_natCast, grow_link _ l m true _ (Nat.le_refl _) h1 hm (fun _ => rfl)]
  simp

set_option maxHeartbeats 4000000 in
theorem prefixes_law (i : Int) (a : Option Addr) (c : Nat) (xs : List Int) (w : World) (hx : Ints .u64 w a xs) (hc : xs.length ≤ c) (hnil : a = none → c = 0) :
    Calls Try.prog 8 #[.slice a xs.length c, .int .i64 i] w fun e w' => e = .returned (.bool true) ∧ Below w.heap.size w w' := by
  by_cases h : 200 < xs.length
  · have d1 : decide ((xs.length : Int) > 200) = true := decide_eq_true (by omega)
    go_enter Try.func8, Try.ntmps8
    go_wp2_with (go_at_call 10; refine (awake_any _).mono ?_; rintro e w1 ⟨rfl, hb⟩)
    go_ret
    exact ⟨rfl, hb⟩
  · have d1 : decide ((xs.length : Int) > 200) = false := decide_eq_false (by omega)
    by_cases hi : i < 1 ∨ xs.length < i
    · have P1 := Lib.hid (prefix_no i a c xs w hi)
      have P2 := Lib.hid (fun wx => rprefix_no i a c xs wx hi)
      go_enter Try.func8, Try.ntmps8
      go_wp2_with fail
      refine P1.out.mono ?_
      rintro e w1 ⟨rfl, hb1⟩
      go_wp2_with fail
      refine (P2.out _).mono ?_
      rintro e w2 ⟨rfl, hb2⟩
      go_wp2_with fail
      refine (same_any none none 0 0 [] w2 (.inl rfl) (.inl rfl) (by simp)).mono ?_
      rintro e w3 ⟨rfl, hb3⟩
      have hbb : Below w.heap.size w w3 := Below.next (Below.next hb1 hb2) hb3
      go_wp2_with fail
      refine (awake_any _).mono ?_
      rintro e w4 ⟨rfl, hb4⟩
      go_wp2
      go_ret
      exact ⟨rfl, Below.next hbb hb4⟩
    · obtain ⟨j, rfl⟩ := Int.eq_ofNat_of_zero_le (show 0 ≤ i by omega)
      have hj : 1 ≤ j := by omega
      have hj2 : j ≤ xs.length := by omega
      have P1 := prefix_yes j a c xs w (by omega) (by omega) hx hc (by omega)
      have P2 := fun wx (hb : Below w.heap.size w wx) => rprefix_yes j a c xs wx (by omega) (by omega) (hx.below hb) hc (by omega)
      have hv := extends_link xs j hj hj2
      have hll := linkOf_length _ xs j true (Nat.le_refl _)
      rw [Int.toNat_natCast] at P1 P2
      generalize linkOf xs j true = p at *
      obtain ⟨i0, hi0, _⟩ := info_parts info24
      have hcut := fun W => take_run (P := Try.prog) 22 24 Try.underlying22 hi0 .i64 a xs.length c j (by omega) W
      have hlt : (xs.take j).length = j := by rw [List.length_take]; omega
      have PP1 := Lib.hid P1
      have PP2 := Lib.hid P2
      have HV := Lib.hid hv
      have HX := Lib.hid hx
      have HL := Lib.hid hlt
      clear P1 P2 hv hx hlt
      go_enter Try.func8, Try.ntmps8
      go_wp2_with fail
      refine PP1.out.mono ?_
      rintro e w1 ⟨v1, rfl, ho1, hb1⟩
      go_wp2_with fail
      refine (PP2.out _ hb1).mono ?_
      rintro e w2 ⟨v2, rfl, ho2, hb2⟩
      obtain ⟨a1, c1, rfl, hp1⟩ := ints_own (ownsRow_below ho1 hb2)
      obtain ⟨a2, c2, rfl, hp2⟩ := ints_own ho2
      have hlc : p.length ≤ c1 := own_cap ho1
      clear ho1 ho2
      go_wp2_with fail
      refine (same_any a1 a2 c1 c2 p w2 hp1 hp2 (by omega)).mono ?_
      rintro e w3 ⟨rfl, hb3⟩
      have hbb : Below w.heap.size w w3 := Below.next (Below.next hb1 hb2) hb3
      have I1 : Hid (Calls Try.prog 11 #[.slice a j c] w3 fun e w' => e = .returned (.int .u64 (rootOf (xs.take j))) ∧ Below w3.heap.size w3 w') := by
        have := root_any _ a c (xs.take j) w3 (Nat.le_refl _) ((HX.out.below hbb).take j) (by rw [HL.out]; omega) (by rw [HL.out]; omega)
        rw [HL.out] at this
        exact this
      have I2 : Hid (∀ wx, Below w3.heap.size w3 wx → Calls Try.prog 11 #[.slice a xs.length c] wx fun e w' => e = .returned (.int .u64 (rootOf xs)) ∧ Below w3.heap.size w3 w') :=
        fun wx hb => (root_any _ a c xs wx (Nat.le_refl _) ((HX.out.below hbb).below hb) hc (by omega)).mono fun e w' h => ⟨h.1, Below.next hb h.2⟩
      have I3 : Hid (∀ wx, Below w3.heap.size w3 wx → Calls Try.prog 18 #[.int .u64 (rootOf (xs.take j)), .int .u64 (rootOf xs), .int .i64 j, .int .i64 xs.length, .slice a1 p.length c1] wx fun e w' => e = .returned (.bool true) ∧ Below w3.heap.size w3 w') := by
        intro wx hb
        have := extends_any (rootOf (xs.take j)) (rootOf xs) j xs.length a1 c1 p wx (by omega) ((hp1.below hb3).below hb) hlc (by omega)
        rw [HV.out] at this
        exact this.mono fun e w' h => ⟨h.1, Below.next hb h.2⟩
      clear hp1 hp2
      go_wp2_with fail
      refine I1.out.mono ?_
      rintro e w4 ⟨rfl, hb4⟩
      go_wp2_with fail
      refine (I2.out _ hb4).mono ?_
      rintro e w5 ⟨rfl, hb5⟩
      go_wp2_with fail
      refine (I3.out _ hb5).mono ?_
      rintro e w6 ⟨rfl, hb6⟩
      go_wp2_with fail
      refine (awake_any _).mono ?_
      rintro e w7 ⟨rfl, hb7⟩
      go_wp2
      go_ret
      exact ⟨rfl, Below.next hbb (Below.next hb6 hb7)⟩
end Go.Proofs.Ytibakdebmclkiaa
