/- Paths are accepted, and short; the statement MerkleProves over any memory. -/
import Derived.Test.YtibakdebmclkiaaA10
import Derived.Test.YtibakdebmclkiaaWLast
namespace Go.Proofs.Ytibakdebmclkiaa
open Go.RowKit Go.Proofs.YtibakdebmclkiaaW.PrintLast
set_option linter.unusedVariables false
set_option linter.unusedSimpArgs false

theorem climb_path (d : Nat) : ∀ (l : List Int) (i : Nat) (h : i < l.length), l.length ≤ d → climbOf (l.getD i 0) i l.length (pathOf l i) = (rootOf l, true) := by
  induction d with
  | zero => intro l i h hd; omega
  | succ d ih =>
    intro l i h hd
    by_cases h1 : l.length = 1
    · obtain ⟨x, rfl⟩ := List.length_eq_one_iff.1 h1
      obtain rfl : i = 0 := by simpa using h
      rw [climbOf, pathOf, dif_pos (by simp), if_pos (by simp), root1]; rfl
    · have s1 := splitOf_lt (n := l.length) (by omega)
      have s2 := splitOf_pos l.length
      have l1 : (l.take (splitOf l.length)).length = splitOf l.length := by rw [List.length_take]; omega
      have l2 : (l.drop (splitOf l.length)).length = l.length - splitOf l.length := List.length_drop
      have hroot : rootOf l = nodeOf (rootOf (l.take (splitOf l.length))) (rootOf (l.drop (splitOf l.length))) := by
        conv => lhs; rw [rootOf]
        rw [dif_neg (by omega), dif_neg h1]
      by_cases hik : i < splitOf l.length
      · have hp : pathOf l i = pathOf (l.take (splitOf l.length)) i ++ [rootOf (l.drop (splitOf l.length))] := by
          conv => lhs; rw [pathOf]
          rw [dif_neg (by omega), if_pos hik]
        have r := ih (l.take (splitOf l.length)) i (by omega) (by omega)
        rw [l1] at r
        have hg : (l.take (splitOf l.length)).getD i 0 = l.getD i 0 := by rw [List.getD_eq_getElem?_getD, List.getD_eq_getElem?_getD, List.getElem?_take, if_pos hik]
        rw [hg] at r
        rw [hp, climbOf, if_neg h1, dif_neg (by simp), if_pos hik]
        simp only [List.length_append, List.length_singleton, Nat.add_sub_cancel, List.take_left', List.getLast_concat, List.take_left, r, hroot]
      · have hp : pathOf l i = pathOf (l.drop (splitOf l.length)) (i - splitOf l.length) ++ [rootOf (l.take (splitOf l.length))] := by
          conv => lhs; rw [pathOf]
          rw [dif_neg (by omega), if_neg hik]
        have r := ih (l.drop (splitOf l.length)) (i - splitOf l.length) (by omega) (by omega)
        rw [l2] at r
        have hg : (l.drop (splitOf l.length)).getD (i - splitOf l.length) 0 = l.getD i 0 := by rw [List.getD_eq_getElem?_getD, List.getD_eq_getElem?_getD, List.getElem?_drop]; congr 2; omega
        rw [hg] at r
        rw [hp, climbOf, if_neg h1, dif_neg (by simp), if_neg hik]
        simp only [List.length_append, List.length_singleton, Nat.add_sub_cancel, List.take_left', List.getLast_concat, List.take_left, r, hroot]

theorem splitOf_le {n p : Nat} (h0 : 2 ≤ n) (h : n ≤ 2 ^ (p + 1)) : splitOf n ≤ 2 ^ p := by
  unfold splitOf
  have : Nat.log2 (n - 1) < p + 1 := (Nat.log2_lt (by omega)).2 (by omega)
  exact Nat.pow_le_pow_right (by omega) (by omega)

theorem path_short (p : Nat) : ∀ (l : List Int) (i : Nat), l.length ≤ 2 ^ p → (pathOf l i).length ≤ p := by
  induction p with
  | zero => intro l i h; rw [pathOf, dif_pos (by simpa using h)]; simp
  | succ p ih =>
    intro l i h
    by_cases h1 : l.length ≤ 1
    · rw [pathOf, dif_pos h1]; simp
    · have s1 := splitOf_lt (n := l.length) (by omega)
      have s3 := splitOf_ge (n := l.length) (by omega)
      have s4 := splitOf_le (n := l.length) (p := p) (by omega) h
      rw [pathOf, dif_neg h1]
      split
      · rw [List.length_append, List.length_singleton]
        have := ih (l.take (splitOf l.length)) i (by rw [List.length_take]; omega)
        omega
      · rw [List.length_append, List.length_singleton]
        have := ih (l.drop (splitOf l.length)) (i - splitOf l.length) (by rw [List.length_drop]; omega)
        omega

theorem verify_path (l : List Int) (i : Nat) (h : i < l.length) : verifyOf (rootOf l) (l.getD i 0) i l.length (pathOf l i) = true := by
  unfold verifyOf
  rw [if_neg (by omega), Int.toNat_natCast, Int.toNat_natCast, climb_path _ l i h (Nat.le_refl _)]
  simp

theorem own_cap {w : World} {base e n m size c : Nat} {a : Option Addr} {xs : List Value} (h : w.ownsRow base e size (.slice a m c) n xs) : n ≤ c := by
  rcases h.2 with ⟨_, rfl⟩ | ⟨g, cap, cur, h1, _, _, h4, _⟩
  · exact Nat.zero_le _
  · injection h1 with _ _ h1
    rw [h1]; exact h4

set_option maxHeartbeats 4000000 in
theorem proves_law (i : Int) (a : Option Addr) (c : Nat) (xs : List Int) (w : World) (hx : Ints .u64 w a xs) (hc : xs.length ≤ c) :
    Calls Try.prog 4 #[.slice a xs.length c, .int .i64 i] w fun e w' => e = .returned (.bool true) ∧ Below w.heap.size w w' := by
  by_cases h : 200 < xs.length
  · have d1 : decide ((xs.length : Int) > 200) = true := decide_eq_true (by omega)
    go_enter Try.func4, Try.ntmps4
    go_wp2_with (go_at_call 10; refine (awake_any _).mono ?_; rintro e w1 ⟨rfl, hb⟩)
    go_ret
    exact ⟨rfl, hb⟩
  · have d1 : decide ((xs.length : Int) > 200) = false := decide_eq_false (by omega)
    by_cases hi : i < 0 ∨ xs.length ≤ i
    · have P1 := Lib.hid (proof_no i a c xs w hi)
      have P2 := Lib.hid (fun wx => rproof_no i a c xs wx hi)
      go_enter Try.func4, Try.ntmps4
      go_wp2_with fail
      refine P1.out.mono ?_
      rintro e w1 ⟨rfl, hb1⟩
      go_wp2_with fail
      refine (P2.out _).mono ?_
      rintro e w2 ⟨rfl, hb2⟩
      go_wp2_with fail
      refine (same_any none none 0 0 [] w2 (.inl rfl) (.inl rfl) (by simp)).mono ?_
      rintro e w3 ⟨rfl, hb3⟩
      have hbb : Below w.heap.size w w3 := Below.next (Below.next hb1 hb2) hb3
      have I3 : Hid (∀ wx, Below w.heap.size w wx → Calls Try.prog 10 #[] wx fun e w' => e = .returned (.bool true) ∧ Below w.heap.size w w') :=
        fun wx hb => (awake_any wx).mono fun e w' h => ⟨h.1, Below.next hb h.2⟩
      go_wp2_with fail
      refine start_ (n := 24) (S := fun _ => True) (ds := []) #[false, false, false, false, false, false, false, false, false, false, false, false, false, false, false, false, false, false, false, false, false, false, false, false] (by kernel_rfl) rfl rfl trivial (fun hHeld => ?_)
      refine pure_ (i := 0) (N := some 34) (v := ?_) (a' := ?_) #[true, false, false, false, false, false, false, false, false, false, false, false, false, false, false, false, false, false, false, false, false, false, false, false] rfl rfl (by kernel_rfl) (fun _ _ _ h => h) (Or.inl ⟨by rfl, ?_⟩) ?_ ?_
      rotate_left
      · intro w'
        go_simp
        try with_reducible rfl
      rotate_left
      · simp only [Act.put, List.setIfInBounds_toArray, List.set_cons_zero, List.set_cons_succ]
        rfl
      refine pure_ (i := 1) (N := some 35) (v := ?_) (a' := ?_) #[true, true, false, false, false, false, false, false, false, false, false, false, false, false, false, false, false, false, false, false, false, false, false, false] rfl rfl (by kernel_rfl) (fun _ _ _ h => h) (Or.inl ⟨by rfl, ?_⟩) ?_ ?_
      rotate_left
      · intro w'
        go_simp
        try with_reducible rfl
      rotate_left
      · simp only [Act.put, List.setIfInBounds_toArray, List.set_cons_zero, List.set_cons_succ]
        rfl
      refine pure_ (i := 2) (N := some 36) (v := ?_) (a' := ?_) #[true, true, true, false, false, false, false, false, false, false, false, false, false, false, false, false, false, false, false, false, false, false, false, false] rfl rfl (by kernel_rfl) (fun _ _ _ h => h) (Or.inl ⟨by rfl, ?_⟩) ?_ ?_
      rotate_left
      · intro w'
        go_simp
        try with_reducible rfl
      rotate_left
      · simp only [Act.put, List.setIfInBounds_toArray, List.set_cons_zero, List.set_cons_succ]
        rfl
      refine pure_ (i := 3) (N := some 37) (v := undef) (a' := ?_) #[true, true, true, true, false, false, false, false, false, false, false, false, false, false, false, false, false, false, false, false, false, false, false, false] rfl rfl (by kernel_rfl) (fun _ _ _ h => h) (Or.inr ⟨by rfl, rfl⟩) ?_ ?_
      rotate_left
      · simp only [Act.put, List.setIfInBounds_toArray, List.set_cons_zero, List.set_cons_succ]
        rfl
      refine pure_ (i := 4) (N := some 38) (v := undef) (a' := ?_) #[true, true, true, true, true, false, false, false, false, false, false, false, false, false, false, false, false, false, false, false, false, false, false, false] rfl rfl (by kernel_rfl) (fun _ _ _ h => h) (Or.inr ⟨by rfl, rfl⟩) ?_ ?_
      rotate_left
      · simp only [Act.put, List.setIfInBounds_toArray, List.set_cons_zero, List.set_cons_succ]
        rfl
      refine pure_ (i := 5) (N := some 39) (v := undef) (a' := ?_) #[true, true, true, true, true, true, false, false, false, false, false, false, false, false, false, false, false, false, false, false, false, false, false, false] rfl rfl (by kernel_rfl) (fun _ _ _ h => h) (Or.inr ⟨by rfl, rfl⟩) ?_ ?_
      rotate_left
      · simp only [Act.put, List.setIfInBounds_toArray, List.set_cons_zero, List.set_cons_succ]
        rfl
      refine pure_ (i := 6) (N := some 40) (v := undef) (a' := ?_) #[true, true, true, true, true, true, true, false, false, false, false, false, false, false, false, false, false, false, false, false, false, false, false, false] rfl rfl (by kernel_rfl) (fun _ _ _ h => h) (Or.inr ⟨by rfl, rfl⟩) ?_ ?_
      rotate_left
      · simp only [Act.put, List.setIfInBounds_toArray, List.set_cons_zero, List.set_cons_succ]
        rfl
      refine pure_ (i := 7) (N := some 41) (v := undef) (a' := ?_) #[true, true, true, true, true, true, true, true, false, false, false, false, false, false, false, false, false, false, false, false, false, false, false, false] rfl rfl (by kernel_rfl) (fun _ _ _ h => h) (Or.inr ⟨by rfl, rfl⟩) ?_ ?_
      rotate_left
      · simp only [Act.put, List.setIfInBounds_toArray, List.set_cons_zero, List.set_cons_succ]
        rfl
      refine pure_ (i := 8) (N := some 42) (v := undef) (a' := ?_) #[true, true, true, true, true, true, true, true, true, false, false, false, false, false, false, false, false, false, false, false, false, false, false, false] rfl rfl (by kernel_rfl) (fun _ _ _ h => h) (Or.inr ⟨by rfl, rfl⟩) ?_ ?_
      rotate_left
      · simp only [Act.put, List.setIfInBounds_toArray, List.set_cons_zero, List.set_cons_succ]
        rfl
      refine pure_ (i := 9) (N := some 43) (v := undef) (a' := ?_) #[true, true, true, true, true, true, true, true, true, true, false, false, false, false, false, false, false, false, false, false, false, false, false, false] rfl rfl (by kernel_rfl) (fun _ _ _ h => h) (Or.inr ⟨by rfl, rfl⟩) ?_ ?_
      rotate_left
      · simp only [Act.put, List.setIfInBounds_toArray, List.set_cons_zero, List.set_cons_succ]
        rfl
      refine pure_ (i := 10) (N := some 44) (v := undef) (a' := ?_) #[true, true, true, true, true, true, true, true, true, true, true, false, false, false, false, false, false, false, false, false, false, false, false, false] rfl rfl (by kernel_rfl) (fun _ _ _ h => h) (Or.inr ⟨by rfl, rfl⟩) ?_ ?_
      rotate_left
      · simp only [Act.put, List.setIfInBounds_toArray, List.set_cons_zero, List.set_cons_succ]
        rfl
      refine pure_ (i := 11) (N := some 45) (v := undef) (a' := ?_) #[true, true, true, true, true, true, true, true, true, true, true, true, false, false, false, false, false, false, false, false, false, false, false, false] rfl rfl (by kernel_rfl) (fun _ _ _ h => h) (Or.inr ⟨by rfl, rfl⟩) ?_ ?_
      rotate_left
      · simp only [Act.put, List.setIfInBounds_toArray, List.set_cons_zero, List.set_cons_succ]
        rfl
      refine pure_ (i := 12) (N := some 46) (v := undef) (a' := ?_) #[true, true, true, true, true, true, true, true, true, true, true, true, true, false, false, false, false, false, false, false, false, false, false, false] rfl rfl (by kernel_rfl) (fun _ _ _ h => h) (Or.inr ⟨by rfl, rfl⟩) ?_ ?_
      rotate_left
      · simp only [Act.put, List.setIfInBounds_toArray, List.set_cons_zero, List.set_cons_succ]
        rfl
      refine pure_ (i := 13) (N := some 47) (v := undef) (a' := ?_) #[true, true, true, true, true, true, true, true, true, true, true, true, true, true, false, false, false, false, false, false, false, false, false, false] rfl rfl (by kernel_rfl) (fun _ _ _ h => h) (Or.inr ⟨by rfl, rfl⟩) ?_ ?_
      rotate_left
      · simp only [Act.put, List.setIfInBounds_toArray, List.set_cons_zero, List.set_cons_succ]
        rfl
      refine pure_ (i := 14) (N := some 48) (v := undef) (a' := ?_) #[true, true, true, true, true, true, true, true, true, true, true, true, true, true, true, false, false, false, false, false, false, false, false, false] rfl rfl (by kernel_rfl) (fun _ _ _ h => h) (Or.inr ⟨by rfl, rfl⟩) ?_ ?_
      rotate_left
      · simp only [Act.put, List.setIfInBounds_toArray, List.set_cons_zero, List.set_cons_succ]
        rfl
      refine pure_ (i := 15) (N := some 49) (v := undef) (a' := ?_) #[true, true, true, true, true, true, true, true, true, true, true, true, true, true, true, true, false, false, false, false, false, false, false, false] rfl rfl (by kernel_rfl) (fun _ _ _ h => h) (Or.inr ⟨by rfl, rfl⟩) ?_ ?_
      rotate_left
      · simp only [Act.put, List.setIfInBounds_toArray, List.set_cons_zero, List.set_cons_succ]
        rfl
      refine pure_ (i := 16) (N := some 50) (v := undef) (a' := ?_) #[true, true, true, true, true, true, true, true, true, true, true, true, true, true, true, true, true, false, false, false, false, false, false, false] rfl rfl (by kernel_rfl) (fun _ _ _ h => h) (Or.inr ⟨by rfl, rfl⟩) ?_ ?_
      rotate_left
      · simp only [Act.put, List.setIfInBounds_toArray, List.set_cons_zero, List.set_cons_succ]
        rfl
      refine pure_ (i := 17) (N := some 51) (v := undef) (a' := ?_) #[true, true, true, true, true, true, true, true, true, true, true, true, true, true, true, true, true, true, false, false, false, false, false, false] rfl rfl (by kernel_rfl) (fun _ _ _ h => h) (Or.inr ⟨by rfl, rfl⟩) ?_ ?_
      rotate_left
      · simp only [Act.put, List.setIfInBounds_toArray, List.set_cons_zero, List.set_cons_succ]
        rfl
      refine pure_ (i := 18) (N := some 52) (v := undef) (a' := ?_) #[true, true, true, true, true, true, true, true, true, true, true, true, true, true, true, true, true, true, true, false, false, false, false, false] rfl rfl (by kernel_rfl) (fun _ _ _ h => h) (Or.inr ⟨by rfl, rfl⟩) ?_ ?_
      rotate_left
      · simp only [Act.put, List.setIfInBounds_toArray, List.set_cons_zero, List.set_cons_succ]
        rfl
      refine pure_ (i := 19) (N := some 53) (v := ?_) (a' := ?_) #[true, true, true, true, true, true, true, true, true, true, true, true, true, true, true, true, true, true, true, true, false, false, false, false] rfl rfl (by kernel_rfl) (fun _ _ _ h => h) (Or.inl ⟨by rfl, ?_⟩) ?_ ?_
      rotate_left
      · intro w'
        go_simp
        try with_reducible rfl
      rotate_left
      · simp only [Act.put, List.setIfInBounds_toArray, List.set_cons_zero, List.set_cons_succ]
        rfl
      refine pure_ (i := 20) (N := some 54) (v := ?_) (a' := ?_) #[true, true, true, true, true, true, true, true, true, true, true, true, true, true, true, true, true, true, true, true, true, false, false, false] rfl rfl (by kernel_rfl) (fun _ _ _ h => h) (Or.inl ⟨by rfl, ?_⟩) ?_ ?_
      rotate_left
      · intro w'
        go_simp
        try with_reducible rfl
      rotate_left
      · simp only [Act.put, List.setIfInBounds_toArray, List.set_cons_zero, List.set_cons_succ]
        rfl
      refine one_ (i := 21) (N := some 55) #[true, true, true, true, true, true, true, true, true, true, true, true, true, true, true, true, true, true, true, true, true, true, false, false] rfl rfl (by kernel_rfl) (by decide) (fun K hK => ?_)
      go_simp
      refine (I3.out _ hbb.drew).mono ?_
      rintro e w4 ⟨rfl, hb4⟩
      refine hK.out _ _ trivial (fun hHeld => ?_)
      clear hK K
      try simp only [Act.put, List.setIfInBounds_toArray, List.set_cons_zero, List.set_cons_succ]
      refine pure_ (i := 22) (N := some 56) (v := ?_) (a' := ?_) #[true, true, true, true, true, true, true, true, true, true, true, true, true, true, true, true, true, true, true, true, true, true, true, false] rfl rfl (by kernel_rfl) (fun _ _ _ h => h) (Or.inl ⟨by rfl, ?_⟩) ?_ ?_
      rotate_left
      · intro w'
        go_simp
        try with_reducible rfl
      rotate_left
      · simp only [Act.put, List.setIfInBounds_toArray, List.set_cons_zero, List.set_cons_succ]
        rfl
      refine pure_ (i := 23) (N := some 4) (v := ?_) (a' := ?_) #[true, true, true, true, true, true, true, true, true, true, true, true, true, true, true, true, true, true, true, true, true, true, true, true] rfl rfl (by kernel_rfl) (fun _ _ _ h => h) (Or.inl ⟨by rfl, ?_⟩) ?_ ?_
      rotate_left
      · intro w'
        go_simp
        try with_reducible rfl
      rotate_left
      · simp only [Act.put, List.setIfInBounds_toArray, List.set_cons_zero, List.set_cons_succ]
        rfl
      refine done_ (by kernel_rfl) ?_
      go_wp2
      go_ret
      exact ⟨rfl, hb4⟩
    · obtain ⟨j, rfl⟩ := Int.eq_ofNat_of_zero_le (show 0 ≤ i by omega)
      have hj : j < xs.length := by omega
      have P1 := proof_yes j a c xs w (by omega) (by omega) hx hc (by omega)
      have P2 := fun wx (hb : Below w.heap.size w wx) => rproof_yes j a c xs wx (by omega) (by omega) (hx.below hb) hc (by omega)
      have hv := verify_path xs j hj
      have hs := path_short 8 xs j (by omega)
      rw [Int.toNat_natCast] at P1 P2
      have hpl := List.length_pos_iff (l := pathOf xs j)
      generalize pathOf xs j = p at *
      obtain ⟨x, rfl, hcx⟩ := hx.at hj
      generalize xs.getD j 0 = y at *
      have b2 : (j : Int) < (xs.length : Int) := by omega
      have hs8 : decide ((p.length : Int) ≤ 8) = true := decide_eq_true (by omega)
      have PP1 := Lib.hid P1
      have PP2 := Lib.hid P2
      have HV := Lib.hid hv
      have HX := Lib.hid hx
      clear P1 P2 hv hx
      go_enter Try.func4, Try.ntmps4
      go_wp2_with fail
      refine PP1.out.mono ?_
      rintro e w1 ⟨v1, rfl, ho1, hb1⟩
      go_wp2_with fail
      refine (PP2.out _ hb1).mono ?_
      rintro e w2 ⟨v2, rfl, ho2, hb2⟩
      obtain ⟨a1, c1, rfl, hp1⟩ := ints_own (ownsRow_below ho1 hb2)
      obtain ⟨a2, c2, rfl, hp2⟩ := ints_own ho2
      have hlc : p.length ≤ c1 := own_cap ho1
      clear ho1 ho2
      go_wp2_with fail
      refine (same_any a1 a2 c1 c2 p w2 hp1 hp2 (by omega)).mono ?_
      rintro e w3 ⟨rfl, hb3⟩
      have hbb : Below w.heap.size w w3 := Below.next (Below.next hb1 hb2) hb3
      have hcx3 : w3.cell? (x.add j) = some (.int .u64 y) := (hbb.cell (World.block_lt_of_cell? _ _ hcx)).trans hcx
      have K : ∀ wx, Below w3.heap.size w3 wx → Below w3.heap.size w3 wx ∧ wx.cell? (x.add j) = some (.int .u64 y) :=
        fun wx hb => ⟨hb, (hb.cell (World.block_lt_of_cell? _ _ hcx3)).trans hcx3⟩
      have S0 := K w3.drew (Below.refl _ _).drew
      have KK := Lib.hid K
      have I1 : Hid (∀ wx, Below w3.heap.size w3 wx → Calls Try.prog 11 #[.slice (some x) xs.length c] wx fun e w' => e = .returned (.int .u64 (rootOf xs)) ∧ Below w3.heap.size w3 w') :=
        fun wx hb => (root_any _ (some x) c xs wx (Nat.le_refl _) ((HX.out.below hbb).below hb) hc (by omega)).mono fun e w' h => ⟨h.1, Below.next hb h.2⟩
      have I2 : Hid (∀ wx, Below w3.heap.size w3 wx → Calls Try.prog 16 #[.int .u64 (rootOf xs), .int .u64 y, .int .i64 j, .int .i64 xs.length, .slice a1 p.length c1] wx fun e w' => e = .returned (.bool true) ∧ Below w3.heap.size w3 w') := by
        intro wx hb
        have := verify_any (rootOf xs) y j xs.length a1 c1 p wx (by omega) ((hp1.below hb3).below hb) hlc (by omega)
        rw [HV.out] at this
        exact this.mono fun e w' h => ⟨h.1, Below.next hb h.2⟩
      have I3 : Hid (∀ wx, Below w3.heap.size w3 wx → Calls Try.prog 10 #[] wx fun e w' => e = .returned (.bool true) ∧ Below w3.heap.size w3 w') :=
        fun wx hb => (awake_any wx).mono fun e w' h => ⟨h.1, Below.next hb h.2⟩
      clear K hcx hp1 hp2
      go_wp2_with fail
      go_region_held3 (fun wx => Below w3.heap.size w3 wx ∧ wx.cell? (x.add j) = some (.int .u64 y)) (with_reducible first | assumption | exact S0 | exact KK.out _ (by assumption)) (first | (go_at_call 11; (with_reducible refine (I1.out _ ?_).mono ?_); (go_split_ands; with_reducible assumption); rintro e w4 ⟨rfl, hb4⟩) | (go_at_call 16; (with_reducible refine (I2.out _ ?_).mono ?_); (go_split_ands; with_reducible assumption); rintro e w4 ⟨rfl, hb4⟩) | (go_at_call 10; (with_reducible refine (I3.out _ ?_).mono ?_); (go_split_ands; with_reducible assumption); rintro e w4 ⟨rfl, hb4⟩))
      go_wp2
      go_ret
      exact ⟨rfl, Below.next hbb (by assumption)⟩
end Go.Proofs.Ytibakdebmclkiaa
