/- The contract of the reference's root, and of the division of a proof into its last hash and the others. -/
import Derived.Test.YtibakdebmclkiaaA3
namespace Go.Proofs.Ytibakdebmclkiaa
open Go.RowKit
set_option linter.unusedVariables false
set_option linter.unusedSimpArgs false

set_option maxHeartbeats 800000 in
theorem rroot_any (d : Nat) : ∀ (a : Option Addr) (c : Nat) (xs : List Int) (w : World), xs.length ≤ d → Ints .u64 w a xs → xs.length ≤ c → xs.length ≤ 140737488351000 →
    Calls Try.prog 12 #[.slice a xs.length c] w fun e w' => e = .returned (.int .u64 (rootOf xs)) ∧ Below w.heap.size w w' := by
  induction d with
  | zero =>
    intro a c xs w hd hx hc hl
    obtain rfl : xs = [] := List.eq_nil_of_length_eq_zero (by omega)
    go_enter Try.func12, Try.ntmps12
    go_wp2_with (go_at_call 29; refine (rhash_any none 0 [] _ (.inl rfl) (fun _ h => by cases h) (by simp)).mono ?_; rintro e w1 ⟨rfl, rfl⟩)
    go_ret
    exact ⟨ret_int (by rw [rootOf]; rfl), Below.refl _ _⟩
  | succ d ih =>
    intro a c xs w hd hx hc hl
    by_cases h0 : xs.length = 0
    · obtain rfl : xs = [] := List.eq_nil_of_length_eq_zero (by omega)
      go_enter Try.func12, Try.ntmps12
      go_wp2_with (go_at_call 29; refine (rhash_any none 0 [] _ (.inl rfl) (fun _ h => by cases h) (by simp)).mono ?_; rintro e w1 ⟨rfl, rfl⟩)
      go_ret
      exact ⟨ret_int (by rw [rootOf]; rfl), Below.refl _ _⟩
    · by_cases h1 : xs.length = 1
      · obtain ⟨y, rfl⟩ : ∃ y, xs = [y] := List.length_eq_one_iff.1 h1
        obtain ⟨x, rfl, hcell⟩ := hx.at (i := 0) (by simp)
        have hc0 : w.cell? x = some (.int .u64 y) := hcell
        clear hx hcell
        go_enter Try.func12, Try.ntmps12
        go_wp2
        go_ret
        exact ⟨ret_int (by rw [rootOf]; rfl), Below.refl _ _⟩
      · have q0 : ((xs.length : Int) == 0) = false := beq_eq_false_iff_ne.2 (by omega)
        have q1 : ((xs.length : Int) == 1) = false := beq_eq_false_iff_ne.2 (by omega)
        have s1 := splitOf_lt (n := xs.length) (by omega)
        have s2 := splitOf_pos xs.length
        obtain ⟨a', hcut⟩ := cuts a c xs (splitOf xs.length) (by omega) hc
        have hcl := hcut.lo
        have hch := hcut.hi
        have l1 := List.length_take (l := xs) (i := splitOf xs.length)
        have l2 := List.length_drop (l := xs) (i := splitOf xs.length)
        have i1 : ∀ wx, Below w.heap.size w wx → Calls Try.prog 12 #[.slice a (xs.take (splitOf xs.length)).length c] wx fun e w' => e = .returned (.int .u64 (rootOf (xs.take (splitOf xs.length)))) ∧ Below w.heap.size w w' :=
          fun wx hb => (ih a c _ wx (by rw [l1]; omega) ((hcut.loI w hx).below hb) hcut.loL (by rw [l1]; omega)).mono fun e w' h => ⟨h.1, Below.next hb h.2⟩
        have i2 : ∀ wx, Below w.heap.size w wx → Calls Try.prog 12 #[.slice a' (xs.drop (splitOf xs.length)).length (c - splitOf xs.length)] wx fun e w' => e = .returned (.int .u64 (rootOf (xs.drop (splitOf xs.length)))) ∧ Below w.heap.size w w' :=
          fun wx hb => (ih a' (c - splitOf xs.length) _ wx (by rw [l2]; omega) ((hcut.hiI w hx).below hb) hcut.hiL (by rw [l2]; omega)).mono fun e w' h => ⟨h.1, Below.next hb h.2⟩
        have i3 : ∀ x y wx, Below w.heap.size w wx → Calls Try.prog 23 #[.int .u64 x, .int .u64 y] wx fun e w' => e = .returned (.int .u64 (nodeOf x y)) ∧ Below w.heap.size w w' :=
          fun x y wx hb => (rnode_any x y wx).mono fun e w' h => ⟨h.1, Below.next hb h.2⟩
        have I1 := Lib.hid i1
        have I2 := Lib.hid i2
        have I3 := Lib.hid i3
        have HF : rootOf xs = nodeOf (rootOf (xs.take (splitOf xs.length))) (rootOf (xs.drop (splitOf xs.length))) := by
          conv => lhs; rw [rootOf]
          rw [dif_neg h0, dif_neg h1]
        rw [HF]
        clear i1 i2 i3 l1 l2 HF ih hcut
        generalize xs.take (splitOf xs.length) = lo at *
        generalize xs.drop (splitOf xs.length) = hi at *
        go_enter Try.func12, Try.ntmps12
        go_wp2_with (first | (go_at_call 30; refine (rsplit_any _ _ (by omega) (by omega)).mono ?_; rintro e w' ⟨rfl, rfl⟩))
        go_region_held3 (fun wx => Below w.heap.size w wx) (with_reducible first | assumption | exact (Below.refl _ _).drew | exact Below.refl _ _) (first | (go_at_call 12; (with_reducible refine (I1.out _ ?_).mono ?_); (with_reducible assumption); rintro e w1 ⟨rfl, hb1⟩) | (go_at_call 12; (with_reducible refine (I2.out _ ?_).mono ?_); (with_reducible assumption); rintro e w1 ⟨rfl, hb1⟩) | (go_at_call 23; (with_reducible refine (I3.out _ _ _ ?_).mono ?_); (with_reducible assumption); rintro e w1 ⟨rfl, hb1⟩))
        go_wp2
        go_ret
        exact ⟨rfl, hb1⟩

theorem below_drewN {B : Nat} {a w : World} (h : Below B a w) (n : Nat) : Below B a (w.drewN n) := ⟨h.os, h.tape, h.output, h.size, h.block⟩

theorem last_nil (a : Option Addr) (c : Nat) (w : World) :
    Calls Try.prog 43 #[.slice a 0 c] w fun e w' => e = .returned (.tuple #[.int .u64 0, .slice none 0 0, .bool false]) ∧ w = w' := by
  go_enter Try.func43, Try.ntmps43
  go_wp2
  go_ret3
  exact ⟨rfl, rfl⟩

theorem last_any (a : Option Addr) (c : Nat) (xs : List Int) (w : World) (h : xs ≠ []) (hx : Ints .u64 w a xs) (hc : xs.length ≤ c) (hl : xs.length ≤ 140737488351000) :
    Calls Try.prog 43 #[.slice a xs.length c] w fun e w' => e = .returned (.tuple #[.int .u64 (xs.getLast h), .slice a (xs.length - 1) c, .bool true]) ∧ Below w.heap.size w w' := by
  have h0 : 0 < xs.length := List.length_pos_iff.2 h
  obtain ⟨x, rfl, hcell⟩ := hx.at (i := xs.length - 1) (by omega)
  have hg : xs.getD (xs.length - 1) 0 = xs.getLast h := by rw [List.getLast_eq_getElem]; simp; rw [List.getElem?_eq_getElem (by omega)]; rfl
  rw [hg] at hcell
  obtain ⟨i0, hi, hz0, hz1, hz2⟩ := info_parts info24
  have hcut := fun W => take_run (P := Try.prog) 22 24 Try.underlying22 hi .i64 (some x) xs.length c (xs.length - 1) (by omega) W
  generalize xs.getLast h = y at *
  have q0 : ((xs.length : Int) == 0) = false := beq_eq_false_iff_ne.2 (by omega)
  have e1 : (xs.length : Int) - 1 = ((xs.length - 1 : Nat) : Int) := by omega
  have hw : IntKind.i64.wrap ((xs.length : Int) - 1) = ((xs.length - 1 : Nat) : Int) := by rw [e1]; exact IntWalk.i64_in _ (by omega)
  have b1 : ((xs.length - 1 : Nat) : Int) < (xs.length : Int) := by omega
  clear hx hg
  go_enter Try.func43, Try.ntmps43
  go_wp2
  go_quiet (fail)
  go_wp2
  go_ret3
  exact ⟨rfl, below_drewN (Below.refl _ _) _⟩
end Go.Proofs.Ytibakdebmclkiaa
