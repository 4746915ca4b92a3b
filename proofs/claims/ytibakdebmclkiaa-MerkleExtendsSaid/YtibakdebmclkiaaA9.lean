/- The statements MerkleVerifies and MerkleExtends over any memory: the program's answer is the reference's. -/
import Derived.Test.YtibakdebmclkiaaA8
namespace Go.Proofs.Ytibakdebmclkiaa
open Go.RowKit
set_option linter.unusedVariables false
set_option linter.unusedSimpArgs false

set_option maxHeartbeats 2000000 in
theorem verifies_law (root leaf i n : Int) (a : Option Addr) (c : Nat) (xs : List Int) (w : World) (hn : n ≤ 9223372036854775807) (hx : Ints .u64 w a xs) (hc : xs.length ≤ c) :
    Calls Try.prog 5 #[.agg #[.int .u64 root, .int .u64 leaf, .int .i64 i, .int .i64 n, .slice a xs.length c]] w fun e w' => e = .returned (.bool true) ∧ Below w.heap.size w w' := by
  by_cases h : 100 < xs.length
  · have d1 : decide ((xs.length : Int) > 100) = true := decide_eq_true (by omega)
    go_enter Try.func5, Try.ntmps5
    go_wp2_with (go_at_call 10; refine (awake_any _).mono ?_; rintro e w1 ⟨rfl, hb⟩)
    go_ret
    exact ⟨rfl, Below.next ((Below.refl _ _).alloc (Nat.le_refl _) _) hb⟩
  · have d1 : decide ((xs.length : Int) > 100) = false := decide_eq_false (by omega)
    generalize hW : w.alloc (.cells #[.int .u64 root, .int .u64 leaf, .int .i64 i, .int .i64 n, .slice a xs.length c] 33) = W
    have hsz : W.heap.size = w.heap.size + 1 := by rw [← hW]; simp
    have hwW : Below w.heap.size w W := by rw [← hW]; exact (Below.refl _ _).alloc (Nat.le_refl _) _
    have k0 : W.cell? ⟨w.heap.size, 0, none⟩ = some (.int .u64 root) := by rw [← hW, World.cell?_alloc_at _ _ _ _ rfl]; rfl
    have k1 : W.cell? ⟨w.heap.size, 1, none⟩ = some (.int .u64 leaf) := by rw [← hW, World.cell?_alloc_at _ _ _ _ rfl]; rfl
    have k2 : W.cell? ⟨w.heap.size, 2, none⟩ = some (.int .i64 i) := by rw [← hW, World.cell?_alloc_at _ _ _ _ rfl]; rfl
    have k3 : W.cell? ⟨w.heap.size, 3, none⟩ = some (.int .i64 n) := by rw [← hW, World.cell?_alloc_at _ _ _ _ rfl]; rfl
    have k4 : W.cell? ⟨w.heap.size, 4, none⟩ = some (.slice a xs.length c) := by rw [← hW, World.cell?_alloc_at _ _ _ _ rfl]; rfl
    have K : ∀ wx, Below W.heap.size W wx → Below W.heap.size W wx ∧ wx.cell? ⟨w.heap.size, 0, none⟩ = some (.int .u64 root) ∧ wx.cell? ⟨w.heap.size, 1, none⟩ = some (.int .u64 leaf) ∧ wx.cell? ⟨w.heap.size, 2, none⟩ = some (.int .i64 i) ∧ wx.cell? ⟨w.heap.size, 3, none⟩ = some (.int .i64 n) ∧ wx.cell? ⟨w.heap.size, 4, none⟩ = some (.slice a xs.length c) :=
      fun wx hb => ⟨hb, (hb.cell (p := ⟨w.heap.size, 0, none⟩) (by simp; omega)).trans k0, (hb.cell (p := ⟨w.heap.size, 1, none⟩) (by simp; omega)).trans k1, (hb.cell (p := ⟨w.heap.size, 2, none⟩) (by simp; omega)).trans k2, (hb.cell (p := ⟨w.heap.size, 3, none⟩) (by simp; omega)).trans k3, (hb.cell (p := ⟨w.heap.size, 4, none⟩) (by simp; omega)).trans k4⟩
    have KK := Lib.hid K
    have I1 : Hid (∀ wx, Below W.heap.size W wx → Calls Try.prog 16 #[.int .u64 root, .int .u64 leaf, .int .i64 i, .int .i64 n, .slice a xs.length c] wx fun e w' => e = .returned (.bool (verifyOf root leaf i n xs)) ∧ Below W.heap.size W w') :=
      fun wx hb => (verify_any root leaf i n a c xs wx hn ((hx.below hwW).below hb) hc (by omega)).mono fun e w' h => ⟨h.1, Below.next hb h.2⟩
    have I2 : Hid (∀ wx, Below W.heap.size W wx → Calls Try.prog 17 #[.int .u64 root, .int .u64 leaf, .int .i64 i, .int .i64 n, .slice a xs.length c] wx fun e w' => e = .returned (.bool (verifyOf root leaf i n xs)) ∧ Below W.heap.size W w') :=
      fun wx hb => (rverify_any root leaf i n a c xs wx hn ((hx.below hwW).below hb) hc (by omega)).mono fun e w' h => ⟨h.1, Below.next hb h.2⟩
    have I3 : Hid (∀ wx, Below W.heap.size W wx → Calls Try.prog 10 #[] wx fun e w' => e = .returned (.bool true) ∧ Below W.heap.size W w') :=
      fun wx hb => (awake_any wx).mono fun e w' h => ⟨h.1, Below.next hb h.2⟩
    generalize verifyOf root leaf i n xs = b at *
    have HW := Lib.hid hW
    have HN := Lib.hid hwW
    have S0 := K W.drew (Below.refl _ _).drew
    have e0 : (b == b) = true := beq_self_eq_true b
    clear K hwW hW
    cases b
    all_goals
      go_enter Try.func5, Try.ntmps5
      go_wp2_with fail
      rw [HW.out]
      go_region_held3 (fun wx => Below W.heap.size W wx ∧ wx.cell? ⟨w.heap.size, 0, none⟩ = some (.int .u64 root) ∧ wx.cell? ⟨w.heap.size, 1, none⟩ = some (.int .u64 leaf) ∧ wx.cell? ⟨w.heap.size, 2, none⟩ = some (.int .i64 i) ∧ wx.cell? ⟨w.heap.size, 3, none⟩ = some (.int .i64 n) ∧ wx.cell? ⟨w.heap.size, 4, none⟩ = some (.slice a xs.length c)) (with_reducible first | assumption | exact S0 | exact KK.out _ (by assumption)) (first | (go_at_call 16; (with_reducible refine (I1.out _ ?_).mono ?_); (go_split_ands; with_reducible assumption); rintro e w1 ⟨rfl, hb1⟩) | (go_at_call 17; (with_reducible refine (I2.out _ ?_).mono ?_); (go_split_ands; with_reducible assumption); rintro e w1 ⟨rfl, hb1⟩) | (go_at_call 10; (with_reducible refine (I3.out _ ?_).mono ?_); (go_split_ands; with_reducible assumption); rintro e w1 ⟨rfl, hb1⟩))
      go_wp2
      go_ret
      exact ⟨rfl, Below.next HN.out (by assumption)⟩

set_option maxHeartbeats 2000000 in
theorem extends_law (root leaf i n : Int) (a : Option Addr) (c : Nat) (xs : List Int) (w : World) (hn : n ≤ 9223372036854775807) (hx : Ints .u64 w a xs) (hc : xs.length ≤ c) :
    Calls Try.prog 6 #[.agg #[.int .u64 root, .int .u64 leaf, .int .i64 i, .int .i64 n, .slice a xs.length c]] w fun e w' => e = .returned (.bool true) ∧ Below w.heap.size w w' := by
  by_cases h : 100 < xs.length
  · have d1 : decide ((xs.length : Int) > 100) = true := decide_eq_true (by omega)
    go_enter Try.func6, Try.ntmps6
    go_wp2_with (go_at_call 10; refine (awake_any _).mono ?_; rintro e w1 ⟨rfl, hb⟩)
    go_ret
    exact ⟨rfl, Below.next ((Below.refl _ _).alloc (Nat.le_refl _) _) hb⟩
  · have d1 : decide ((xs.length : Int) > 100) = false := decide_eq_false (by omega)
    generalize hW : w.alloc (.cells #[.int .u64 root, .int .u64 leaf, .int .i64 i, .int .i64 n, .slice a xs.length c] 33) = W
    have hsz : W.heap.size = w.heap.size + 1 := by rw [← hW]; simp
    have hwW : Below w.heap.size w W := by rw [← hW]; exact (Below.refl _ _).alloc (Nat.le_refl _) _
    have k0 : W.cell? ⟨w.heap.size, 0, none⟩ = some (.int .u64 root) := by rw [← hW, World.cell?_alloc_at _ _ _ _ rfl]; rfl
    have k1 : W.cell? ⟨w.heap.size, 1, none⟩ = some (.int .u64 leaf) := by rw [← hW, World.cell?_alloc_at _ _ _ _ rfl]; rfl
    have k2 : W.cell? ⟨w.heap.size, 2, none⟩ = some (.int .i64 i) := by rw [← hW, World.cell?_alloc_at _ _ _ _ rfl]; rfl
    have k3 : W.cell? ⟨w.heap.size, 3, none⟩ = some (.int .i64 n) := by rw [← hW, World.cell?_alloc_at _ _ _ _ rfl]; rfl
    have k4 : W.cell? ⟨w.heap.size, 4, none⟩ = some (.slice a xs.length c) := by rw [← hW, World.cell?_alloc_at _ _ _ _ rfl]; rfl
    have K : ∀ wx, Below W.heap.size W wx → Below W.heap.size W wx ∧ wx.cell? ⟨w.heap.size, 0, none⟩ = some (.int .u64 root) ∧ wx.cell? ⟨w.heap.size, 1, none⟩ = some (.int .u64 leaf) ∧ wx.cell? ⟨w.heap.size, 2, none⟩ = some (.int .i64 i) ∧ wx.cell? ⟨w.heap.size, 3, none⟩ = some (.int .i64 n) ∧ wx.cell? ⟨w.heap.size, 4, none⟩ = some (.slice a xs.length c) :=
      fun wx hb => ⟨hb, (hb.cell (p := ⟨w.heap.size, 0, none⟩) (by simp; omega)).trans k0, (hb.cell (p := ⟨w.heap.size, 1, none⟩) (by simp; omega)).trans k1, (hb.cell (p := ⟨w.heap.size, 2, none⟩) (by simp; omega)).trans k2, (hb.cell (p := ⟨w.heap.size, 3, none⟩) (by simp; omega)).trans k3, (hb.cell (p := ⟨w.heap.size, 4, none⟩) (by simp; omega)).trans k4⟩
    have KK := Lib.hid K
    have I1 : Hid (∀ wx, Below W.heap.size W wx → Calls Try.prog 18 #[.int .u64 leaf, .int .u64 root, .int .i64 i, .int .i64 n, .slice a xs.length c] wx fun e w' => e = .returned (.bool (extendsOf leaf root i n xs)) ∧ Below W.heap.size W w') :=
      fun wx hb => (extends_any leaf root i n a c xs wx hn ((hx.below hwW).below hb) hc (by omega)).mono fun e w' h => ⟨h.1, Below.next hb h.2⟩
    have I2 : Hid (∀ wx, Below W.heap.size W wx → Calls Try.prog 19 #[.int .u64 leaf, .int .u64 root, .int .i64 i, .int .i64 n, .slice a xs.length c] wx fun e w' => e = .returned (.bool (extendsOf leaf root i n xs)) ∧ Below W.heap.size W w') :=
      fun wx hb => (rextends_any leaf root i n a c xs wx hn ((hx.below hwW).below hb) hc (by omega)).mono fun e w' h => ⟨h.1, Below.next hb h.2⟩
    have I3 : Hid (∀ wx, Below W.heap.size W wx → Calls Try.prog 10 #[] wx fun e w' => e = .returned (.bool true) ∧ Below W.heap.size W w') :=
      fun wx hb => (awake_any wx).mono fun e w' h => ⟨h.1, Below.next hb h.2⟩
    generalize extendsOf leaf root i n xs = b at *
    have HW := Lib.hid hW
    have HN := Lib.hid hwW
    have S0 := K W.drew (Below.refl _ _).drew
    have e0 : (b == b) = true := beq_self_eq_true b
    clear K hwW hW
    cases b
    all_goals
      go_enter Try.func6, Try.ntmps6
      go_wp2_with fail
      rw [HW.out]
      go_region_held3 (fun wx => Below W.heap.size W wx ∧ wx.cell? ⟨w.heap.size, 0, none⟩ = some (.int .u64 root) ∧ wx.cell? ⟨w.heap.size, 1, none⟩ = some (.int .u64 leaf) ∧ wx.cell? ⟨w.heap.size, 2, none⟩ = some (.int .i64 i) ∧ wx.cell? ⟨w.heap.size, 3, none⟩ = some (.int .i64 n) ∧ wx.cell? ⟨w.heap.size, 4, none⟩ = some (.slice a xs.length c)) (with_reducible first | assumption | exact S0 | exact KK.out _ (by assumption)) (first | (go_at_call 18; (with_reducible refine (I1.out _ ?_).mono ?_); (go_split_ands; with_reducible assumption); rintro e w1 ⟨rfl, hb1⟩) | (go_at_call 19; (with_reducible refine (I2.out _ ?_).mono ?_); (go_split_ands; with_reducible assumption); rintro e w1 ⟨rfl, hb1⟩) | (go_at_call 10; (with_reducible refine (I3.out _ ?_).mono ?_); (go_split_ands; with_reducible assumption); rintro e w1 ⟨rfl, hb1⟩))
      go_wp2
      go_ret
      exact ⟨rfl, Below.next HN.out (by assumption)⟩

end Go.Proofs.Ytibakdebmclkiaa
