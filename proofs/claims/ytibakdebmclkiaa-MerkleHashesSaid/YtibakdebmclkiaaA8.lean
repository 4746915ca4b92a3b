/- The contract of the statements' examples (awake): it returns true. -/
import Derived.Test.YtibakdebmclkiaaA7
namespace Go.Proofs.Ytibakdebmclkiaa
open Go.RowKit
set_option linter.unusedVariables false
set_option linter.unusedSimpArgs false

theorem split3 : splitOf 3 = 2 := by decide +kernel
theorem split2 : splitOf 2 = 1 := by decide +kernel
theorem root0 : rootOf [] = 14695981039346656037 := by rw [rootOf]; rfl
theorem root1 (x : Int) : rootOf [x] = x := by rw [rootOf]; rfl
theorem root2 (x y : Int) : rootOf [x, y] = nodeOf x y := by
  rw [rootOf, dif_neg (by simp), dif_neg (by simp)]
  show nodeOf (rootOf ([x, y].take (splitOf 2))) (rootOf ([x, y].drop (splitOf 2))) = _
  rw [split2]
  show nodeOf (rootOf [x]) (rootOf [y]) = _
  rw [root1, root1]
theorem root3 (x y z : Int) : rootOf [x, y, z] = nodeOf (nodeOf x y) z := by
  rw [rootOf, dif_neg (by simp), dif_neg (by simp)]
  show nodeOf (rootOf ([x, y, z].take (splitOf 3))) (rootOf ([x, y, z].drop (splitOf 3))) = _
  rw [split3]
  show nodeOf (rootOf [x, y]) (rootOf [z]) = _
  rw [root1, root2]
theorem path3 (x y z : Int) : pathOf [x, y, z] 2 = [nodeOf x y] := by
  rw [pathOf, dif_neg (by simp)]
  show (if 2 < splitOf 3 then _ else pathOf ([x, y, z].drop (splitOf 3)) (2 - splitOf 3) ++ [rootOf ([x, y, z].take (splitOf 3))]) = _
  rw [split3, if_neg (by omega)]
  show pathOf [z] 0 ++ [rootOf [x, y]] = _
  rw [root2, pathOf, dif_pos (by simp)]; rfl
theorem verify3 (x y : Int) : verifyOf (nodeOf x y) y 2 3 [x] = true := by
  have h : climbOf y (2 : Int).toNat (3 : Int).toNat [x] = (nodeOf x y, true) := by
    show climbOf y 2 3 [x] = _
    rw [climbOf, if_neg (by omega), dif_neg (by simp), split3, if_neg (by omega)]
    show (nodeOf x (climbOf y 0 1 []).1, (climbOf y 0 1 []).2) = _
    rw [climbOf, if_pos rfl]; rfl
  unfold verifyOf
  rw [if_neg (by omega), h]
  simp
theorem extends3 (x y : Int) : extendsOf x (nodeOf x y) 2 3 [y] = true := by
  have h : growOf x (2 : Int).toNat (3 : Int).toNat [y] true = (x, nodeOf x y, true) := by
    show growOf x 2 3 [y] true = _
    rw [growOf, if_neg (by omega), dif_neg (by simp), split3, if_pos (by omega)]
    show ((growOf x 2 2 [] true).1, nodeOf (growOf x 2 2 [] true).2.1 y, (growOf x 2 2 [] true).2.2) = _
    rw [grow_end]; rfl
  unfold extendsOf
  rw [if_neg (by omega), h]
  simp
theorem leaf0 : leafOf [] = 12638153115695167455 := by decide +kernel

attribute [local irreducible] nodeOf leafOf verifyOf extendsOf

set_option maxHeartbeats 2000000 in
theorem awake_any (w : World) : Calls Try.prog 10 #[] w fun e w' => e = .returned (.bool true) ∧ Below w.heap.size w w' := by
  have a1 : (leafOf [] == 12638153115695167455) = true := by rw [leaf0]; decide
  have a2 : (rootOf [] == 14695981039346656037) = true := by rw [root0]; decide
  have a3 : (rootOf [5] == 5) = true := by rw [root1]; decide
  have a4 : (rootOf [7, 8, 9] == nodeOf (nodeOf 7 8) 9) = true := by rw [root3]; exact beq_self_eq_true _
  have a5 := verify3 (nodeOf 7 8) 9
  have a6 := extends3 (nodeOf 7 8) 9
  have a7 := path3 7 8 9
  have P := fun w a c (hx : Ints .u64 w a [7, 8, 9]) => proof_yes 2 a c [7, 8, 9] w (by omega) (by simp) hx
  have A5 := Lib.hid a5
  have A6 := Lib.hid a6
  simp only [show (2 : Int).toNat = 2 from rfl, a7] at P
  have PP := Lib.hid P
  clear a5 a6 a7 P
  go_enter Try.func10, Try.ntmps10
  go_wp2_with fail
  refine (PP.out _ _ 3 (ints_alloc w .u64 [7, 8, 9] 24) (by simp) (by simp)).mono ?_
  rintro e w1 ⟨v1, rfl, hown1, hb1⟩
  go_wp2_with fail
  obtain ⟨ap, cp, rfl, hp⟩ := ints_own (xs := [nodeOf 7 8]) hown1
  have hb0 : Below w.heap.size w w1 := Below.next ((Below.refl _ _).alloc (Nat.le_refl _) _) hb1
  obtain ⟨xp, rfl, hcp⟩ := hp.at (i := 0) (by simp)
  have hlp : [nodeOf 7 8].length ≤ cp := by
    rcases hown1.2 with ⟨h, _⟩ | ⟨g, cap, cur, h1, h2, h3, h4, _⟩
    · cases h
    · cases h1; exact h4
  clear hown1 hb1
  have hcp0 : w1.cell? xp = some (.int .u64 (nodeOf 7 8)) := hcp
  clear hcp
  have N : ∀ x y wx, Below w1.heap.size w1 wx → Calls Try.prog 22 #[.int .u64 x, .int .u64 y] wx fun e w' => e = .returned (.int .u64 (nodeOf x y)) ∧ Below w1.heap.size w1 w' :=
    fun x y wx hb => (node_any x y wx).mono fun e w' h => ⟨h.1, Below.next hb h.2⟩
  have R : ∀ a c xs wx, Below w1.heap.size w1 wx → Ints .u64 wx a xs → xs.length ≤ c → xs.length ≤ 140737488351000 → Calls Try.prog 11 #[.slice a xs.length c] wx fun e w' => e = .returned (.int .u64 (rootOf xs)) ∧ Below w1.heap.size w1 w' :=
    fun a c xs wx hb h1 h2 h3 => (root_any _ a c xs wx (Nat.le_refl _) h1 h2 h3).mono fun e w' h => ⟨h.1, Below.next hb h.2⟩
  have V : ∀ wx, Below w1.heap.size w1 wx → Calls Try.prog 16 #[.int .u64 (nodeOf (nodeOf 7 8) 9), .int .u64 9, .int .i64 2, .int .i64 3, .slice (some xp) [nodeOf 7 8].length cp] wx fun e w' => e = .returned (.bool true) ∧ Below w1.heap.size w1 w' := by
    intro wx hb
    have := verify_any (nodeOf (nodeOf 7 8) 9) 9 2 3 (some xp) cp [nodeOf 7 8] wx (by omega) (hp.below hb) hlp (by simp)
    rw [A5.out] at this
    exact this.mono fun e w' h => ⟨h.1, Below.next hb h.2⟩
  have E : ∀ wx a, Below w1.heap.size w1 wx → Ints .u64 wx a [9] → Calls Try.prog 18 #[.int .u64 (nodeOf 7 8), .int .u64 (nodeOf (nodeOf 7 8) 9), .int .i64 2, .int .i64 3, .slice a [9].length 1] wx fun e w' => e = .returned (.bool true) ∧ Below w1.heap.size w1 w' := by
    intro wx a hb hi
    have := extends_any (nodeOf 7 8) (nodeOf (nodeOf 7 8) 9) 2 3 a 1 [9] wx (by omega) hi (by simp) (by simp)
    rw [A6.out] at this
    exact this.mono fun e w' h => ⟨h.1, Below.next hb h.2⟩
  have NN := Lib.hid N
  have RR := Lib.hid R
  have VV := Lib.hid V
  have EE := Lib.hid E
  have HP := Lib.hid hp
  have LP := Lib.hid hlp
  clear N R V E hp hlp A5 A6 PP
  refine (NN.out _ _ _ (Below.refl _ _)).mono ?_
  rintro e w2 ⟨rfl, hb2⟩
  go_wp2_with fail
  refine (leaf_any none 0 [] _ (.inl rfl) (fun _ h => by cases h) (by simp)).mono ?_
  rintro e w2' ⟨rfl, rfl⟩
  go_wp2_with fail
  refine (RR.out none 0 [] _ hb2 (.inl rfl) (by simp) (by simp)).mono ?_
  rintro e w3 ⟨rfl, hb3⟩
  go_wp2_with fail
  refine (RR.out _ 1 [5] _ (hb3.alloc hb3.size _) (ints_alloc w3 .u64 [5] 24) (by simp) (by simp)).mono ?_
  rintro e w4 ⟨rfl, hb4⟩
  go_wp2_with fail
  refine (RR.out _ 3 [7, 8, 9] _ (hb4.alloc hb4.size _) (ints_alloc w4 .u64 [7, 8, 9] 24) (by simp) (by simp)).mono ?_
  rintro e w5 ⟨rfl, hb5⟩
  go_wp2_with fail
  refine (NN.out _ _ _ hb5).mono ?_
  rintro e w6 ⟨rfl, hb6⟩
  have hc6 : w6.cell? xp = some (.int .u64 (nodeOf 7 8)) := by rw [hb6.cell (World.block_lt_of_cell? _ _ hcp0)]; exact hcp0
  go_wp2_with fail
  refine (NN.out _ _ _ hb6).mono ?_
  rintro e w7 ⟨rfl, hb7⟩
  go_wp2_with fail
  refine (VV.out _ hb7).mono ?_
  rintro e w8 ⟨rfl, hb8⟩
  go_wp2_with fail
  refine (NN.out _ _ _ hb8).mono ?_
  rintro e w9 ⟨rfl, hb9⟩
  go_wp2_with fail
  refine (EE.out _ _ (hb9.alloc hb9.size _) (ints_alloc w9 .u64 [9] 24)).mono ?_
  rintro e w10 ⟨rfl, hb10⟩
  go_wp2
  go_ret
  exact ⟨rfl, Below.next hb0 hb10⟩
end Go.Proofs.Ytibakdebmclkiaa
