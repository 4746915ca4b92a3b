/- The contracts of the verification of a proof, of the program and of the reference: both return one function of the arguments. -/
import Derived.Test.YtibakdebmclkiaaA4
namespace Go.Proofs.Ytibakdebmclkiaa
open Go.RowKit
set_option linter.unusedVariables false
set_option linter.unusedSimpArgs false

/-- The hash to which a proof leads, and whether its length is right. -/
def climbOf (leaf : Int) (i n : Nat) (p : List Int) : Int × Bool :=
  if n = 1 then (leaf, decide (p.length = 0))
  else if h : p = [] then (0, false)
  else if i < splitOf n then
    (nodeOf (climbOf leaf i (splitOf n) (p.take (p.length - 1))).1 (p.getLast h), (climbOf leaf i (splitOf n) (p.take (p.length - 1))).2)
  else
    (nodeOf (p.getLast h) (climbOf leaf (i - splitOf n) (n - splitOf n) (p.take (p.length - 1))).1, (climbOf leaf (i - splitOf n) (n - splitOf n) (p.take (p.length - 1))).2)
termination_by p.length
decreasing_by
  all_goals have := List.length_pos_iff.2 h; rw [List.length_take]; omega

set_option maxHeartbeats 1000000 in
theorem climb_any (d : Nat) : ∀ (leaf i n : Int) (a : Option Addr) (c : Nat) (xs : List Int) (w : World), xs.length ≤ d → 0 ≤ i → i < n → n ≤ 9223372036854775807 → Ints .u64 w a xs → xs.length ≤ c → xs.length ≤ 140737488351000 →
    Calls Try.prog 33 #[.int .u64 leaf, .int .i64 i, .int .i64 n, .slice a xs.length c] w fun e w' => e = .returned (.tuple #[.int .u64 (climbOf leaf i.toNat n.toNat xs).1, .bool (climbOf leaf i.toNat n.toNat xs).2]) ∧ Below w.heap.size w w' := by
  induction d with
  | zero =>
    intro leaf i n a c xs w hd h0 hi hn hx hc hl
    obtain rfl : xs = [] := List.eq_nil_of_length_eq_zero (by omega)
    by_cases h1 : n = 1
    · subst h1
      go_enter Try.func33, Try.ntmps33
      go_wp2
      go_ret2
      exact ⟨by rw [climbOf]; rfl, Below.refl _ _⟩
    · have q1 : (n == 1) = false := beq_eq_false_iff_ne.2 h1
      have hfin : climbOf leaf i.toNat n.toNat [] = (0, false) := by rw [climbOf, if_neg (by omega), dif_pos rfl]
      rw [hfin]
      clear hfin
      go_enter Try.func33, Try.ntmps33
      go_wp2_with (go_at_call 43; refine (last_nil _ _ _).mono ?_; rintro e w1 ⟨rfl, rfl⟩)
      go_ret2
      exact ⟨rfl, Below.refl _ _⟩
  | succ d ih =>
    intro leaf i n a c xs w hd h0 hi hn hx hc hl
    by_cases h1 : n = 1
    · subst h1
      have hfin : climbOf leaf i.toNat (1 : Int).toNat xs = (leaf, decide (xs.length = 0)) := by rw [climbOf]; rfl
      have hdec : decide (xs.length = 0) = ((xs.length : Int) == 0) := Bool.eq_iff_iff.2 (by simp)
      rw [hfin, hdec]
      clear hfin hdec
      go_enter Try.func33, Try.ntmps33
      go_wp2
      go_ret2
      exact ⟨rfl, Below.refl _ _⟩
    · have q1 : (n == 1) = false := beq_eq_false_iff_ne.2 h1
      by_cases hxs : xs = []
      · subst hxs
        have hfin : climbOf leaf i.toNat n.toNat [] = (0, false) := by rw [climbOf, if_neg (by omega), dif_pos rfl]
        rw [hfin]
        clear hfin
        go_enter Try.func33, Try.ntmps33
        go_wp2_with (go_at_call 43; refine (last_nil _ _ _).mono ?_; rintro e w1 ⟨rfl, rfl⟩)
        go_ret2
        exact ⟨rfl, Below.refl _ _⟩
      · have hpos := List.length_pos_iff.2 hxs
        have l1 : (xs.take (xs.length - 1)).length = xs.length - 1 := by rw [List.length_take]; omega
        have s1 := splitOf_lt (n := n.toNat) (by omega)
        have s2 := splitOf_pos n.toNat
        have i1 : ∀ (i' n' : Int) wx, 0 ≤ i' → i' < n' → n' ≤ 9223372036854775807 → Below w.heap.size w wx → Calls Try.prog 33 #[.int .u64 leaf, .int .i64 i', .int .i64 n', .slice a (xs.length - 1) c] wx fun e w' => e = .returned (.tuple #[.int .u64 (climbOf leaf i'.toNat n'.toNat (xs.take (xs.length - 1))).1, .bool (climbOf leaf i'.toNat n'.toNat (xs.take (xs.length - 1))).2]) ∧ Below w.heap.size w w' := by
          intro i' n' wx a1 a2 a3 hb
          have := ih leaf i' n' a c (xs.take (xs.length - 1)) wx (by omega) a1 a2 a3 ((hx.take _).below hb) (by omega) (by omega)
          rw [l1] at this
          exact this.mono fun e w' h => ⟨h.1, Below.next hb h.2⟩
        have i3 : ∀ x y wx, Below w.heap.size w wx → Calls Try.prog 22 #[.int .u64 x, .int .u64 y] wx fun e w' => e = .returned (.int .u64 (nodeOf x y)) ∧ Below w.heap.size w w' :=
          fun x y wx hb => (node_any x y wx).mono fun e w' h => ⟨h.1, Below.next hb h.2⟩
        have I1 := Lib.hid i1
        have I3 := Lib.hid i3
        have L := last_any a c xs w hxs hx hc hl
        have LL := Lib.hid L
        clear L
        clear i1 i3 ih
        by_cases hik : i < splitOf n.toNat
        · have hfin : climbOf leaf i.toNat n.toNat xs = (nodeOf (climbOf leaf i.toNat (splitOf n.toNat) (xs.take (xs.length - 1))).1 (xs.getLast hxs), (climbOf leaf i.toNat (splitOf n.toNat) (xs.take (xs.length - 1))).2) := by
            conv => lhs; rw [climbOf]
            rw [if_neg (by omega), dif_neg hxs, if_pos (by omega)]
          rw [hfin]
          clear hfin
          generalize hrl : xs.getLast hxs = hlast at *
          generalize hrt : xs.take (xs.length - 1) = rest at *
          have HR1 := Lib.hid hrl
          have HR2 := Lib.hid hrt
          clear hrl hrt
          go_enter Try.func33, Try.ntmps33
          go_wp2_with fail
          refine LL.out.mono ?_
          rintro e w1 ⟨rfl, hb1⟩
          go_wp2_with (go_at_call 28; refine (split_any _ _ (by omega) (by omega)).mono ?_; rintro e w1 ⟨rfl, rfl⟩)
          refine (I1.out _ _ _ (by omega) (by omega) (by omega) (by first | assumption | exact Below.refl _ _)).mono ?_
          rintro e w2 ⟨rfl, hb2⟩
          simp only [Int.toNat_natCast]
          go_wp2_with fail
          refine (I3.out _ _ _ hb2).mono ?_
          rintro e w3 ⟨rfl, hb3⟩
          go_wp2
          go_ret2
          exact ⟨rfl, hb3⟩
        · have hfin : climbOf leaf i.toNat n.toNat xs = (nodeOf (xs.getLast hxs) (climbOf leaf (i.toNat - splitOf n.toNat) (n.toNat - splitOf n.toNat) (xs.take (xs.length - 1))).1, (climbOf leaf (i.toNat - splitOf n.toNat) (n.toNat - splitOf n.toNat) (xs.take (xs.length - 1))).2) := by
            conv => lhs; rw [climbOf]
            rw [if_neg (by omega), dif_neg hxs, if_neg (by omega)]
          rw [hfin]
          clear hfin
          generalize hrl : xs.getLast hxs = hlast at *
          generalize hrt : xs.take (xs.length - 1) = rest at *
          have HR1 := Lib.hid hrl
          have HR2 := Lib.hid hrt
          clear hrl hrt
          go_enter Try.func33, Try.ntmps33
          go_wp2_with fail
          refine LL.out.mono ?_
          rintro e w1 ⟨rfl, hb1⟩
          go_wp2_with (go_at_call 28; refine (split_any _ _ (by omega) (by omega)).mono ?_; rintro e w1 ⟨rfl, rfl⟩)
          refine (I1.out _ _ _ (by omega) (by omega) (by omega) (by first | assumption | exact Below.refl _ _)).mono ?_
          rintro e w2 ⟨rfl, hb2⟩
          go_wp2_with fail
          refine (I3.out _ _ _ hb2).mono ?_
          rintro e w3 ⟨rfl, hb3⟩
          go_wp2
          go_ret2
          exact ⟨rfl, hb3⟩

set_option maxHeartbeats 1000000 in
theorem reach_any (d : Nat) : ∀ (leaf i n : Int) (a : Option Addr) (c : Nat) (xs : List Int) (w : World), xs.length ≤ d → 0 ≤ i → i < n → n ≤ 9223372036854775807 → Ints .u64 w a xs → xs.length ≤ c → xs.length ≤ 140737488351000 →
    Calls Try.prog 34 #[.int .u64 leaf, .int .i64 i, .int .i64 n, .slice a xs.length c] w fun e w' => e = .returned (.tuple #[.int .u64 (climbOf leaf i.toNat n.toNat xs).1, .bool (climbOf leaf i.toNat n.toNat xs).2]) ∧ Below w.heap.size w w' := by
  induction d with
  | zero =>
    intro leaf i n a c xs w hd h0 hi hn hx hc hl
    obtain rfl : xs = [] := List.eq_nil_of_length_eq_zero (by omega)
    by_cases h1 : n = 1
    · subst h1
      go_enter Try.func34, Try.ntmps34
      go_wp2
      go_ret2
      exact ⟨by rw [climbOf]; rfl, Below.refl _ _⟩
    · have q1 : (n == 1) = false := beq_eq_false_iff_ne.2 h1
      have hfin : climbOf leaf i.toNat n.toNat [] = (0, false) := by rw [climbOf, if_neg (by omega), dif_pos rfl]
      rw [hfin]
      clear hfin
      go_enter Try.func34, Try.ntmps34
      go_wp2
      go_ret2
      exact ⟨rfl, Below.refl _ _⟩
  | succ d ih =>
    intro leaf i n a c xs w hd h0 hi hn hx hc hl
    by_cases h1 : n = 1
    · subst h1
      have hfin : climbOf leaf i.toNat (1 : Int).toNat xs = (leaf, decide (xs.length = 0)) := by rw [climbOf]; rfl
      have hdec : decide (xs.length = 0) = ((xs.length : Int) == 0) := Bool.eq_iff_iff.2 (by simp)
      rw [hfin, hdec]
      clear hfin hdec
      go_enter Try.func34, Try.ntmps34
      go_wp2
      go_ret2
      exact ⟨rfl, Below.refl _ _⟩
    · have q1 : (n == 1) = false := beq_eq_false_iff_ne.2 h1
      by_cases hxs : xs = []
      · subst hxs
        have hfin : climbOf leaf i.toNat n.toNat [] = (0, false) := by rw [climbOf, if_neg (by omega), dif_pos rfl]
        rw [hfin]
        clear hfin
        go_enter Try.func34, Try.ntmps34
        go_wp2
        go_ret2
        exact ⟨rfl, Below.refl _ _⟩
      · have hpos := List.length_pos_iff.2 hxs
        have l1 : (xs.take (xs.length - 1)).length = xs.length - 1 := by rw [List.length_take]; omega
        have s1 := splitOf_lt (n := n.toNat) (by omega)
        have s2 := splitOf_pos n.toNat
        have i1 : ∀ (i' n' : Int) wx, 0 ≤ i' → i' < n' → n' ≤ 9223372036854775807 → Below w.heap.size w wx → Calls Try.prog 34 #[.int .u64 leaf, .int .i64 i', .int .i64 n', .slice a (xs.length - 1) c] wx fun e w' => e = .returned (.tuple #[.int .u64 (climbOf leaf i'.toNat n'.toNat (xs.take (xs.length - 1))).1, .bool (climbOf leaf i'.toNat n'.toNat (xs.take (xs.length - 1))).2]) ∧ Below w.heap.size w w' := by
          intro i' n' wx a1 a2 a3 hb
          have := ih leaf i' n' a c (xs.take (xs.length - 1)) wx (by omega) a1 a2 a3 ((hx.take _).below hb) (by omega) (by omega)
          rw [l1] at this
          exact this.mono fun e w' h => ⟨h.1, Below.next hb h.2⟩
        have i3 : ∀ x y wx, Below w.heap.size w wx → Calls Try.prog 23 #[.int .u64 x, .int .u64 y] wx fun e w' => e = .returned (.int .u64 (nodeOf x y)) ∧ Below w.heap.size w w' :=
          fun x y wx hb => (rnode_any x y wx).mono fun e w' h => ⟨h.1, Below.next hb h.2⟩
        have I1 := Lib.hid i1
        have I3 := Lib.hid i3
        obtain ⟨x, rfl, hcell⟩ := hx.at (i := xs.length - 1) (by omega)
        have hg : xs.getD (xs.length - 1) 0 = xs.getLast hxs := by rw [List.getLast_eq_getElem]; simp; rw [List.getElem?_eq_getElem (by omega)]; rfl
        rw [hg] at hcell
        obtain ⟨i0, hi0, hz0, hz1, hz2⟩ := info_parts info24
        have hcut := fun W => take_run (P := Try.prog) 22 24 Try.underlying22 hi0 .i64 (some x) xs.length c (xs.length - 1) (by omega) W
        have q2 : ((xs.length : Int) == 0) = false := beq_eq_false_iff_ne.2 (by omega)
        have e1 : (xs.length : Int) - 1 = ((xs.length - 1 : Nat) : Int) := by omega
        have hw : IntKind.i64.wrap ((xs.length : Int) - 1) = ((xs.length - 1 : Nat) : Int) := by rw [e1]; exact IntWalk.i64_in _ (by omega)
        have b1 : ((xs.length - 1 : Nat) : Int) < (xs.length : Int) := by omega
        clear hx hg
        clear i1 i3 ih
        by_cases hik : i < splitOf n.toNat
        · have hfin : climbOf leaf i.toNat n.toNat xs = (nodeOf (climbOf leaf i.toNat (splitOf n.toNat) (xs.take (xs.length - 1))).1 (xs.getLast hxs), (climbOf leaf i.toNat (splitOf n.toNat) (xs.take (xs.length - 1))).2) := by
            conv => lhs; rw [climbOf]
            rw [if_neg (by omega), dif_neg hxs, if_pos (by omega)]
          rw [hfin]
          clear hfin
          generalize hrl : xs.getLast hxs = hlast at *
          generalize hrt : xs.take (xs.length - 1) = rest at *
          have HR1 := Lib.hid hrl
          have HR2 := Lib.hid hrt
          clear hrl hrt
          go_enter Try.func34, Try.ntmps34
          go_wp2_with (go_at_call 30; refine (rsplit_any _ _ (by omega) (by omega)).mono ?_; rintro e w1 ⟨rfl, rfl⟩)
          refine (I1.out _ _ _ (by omega) (by omega) (by omega) (by first | assumption | exact Below.refl _ _)).mono ?_
          rintro e w2 ⟨rfl, hb2⟩
          simp only [Int.toNat_natCast]
          go_wp2_with fail
          refine (I3.out _ _ _ hb2).mono ?_
          rintro e w3 ⟨rfl, hb3⟩
          go_wp2
          go_ret2
          exact ⟨rfl, hb3⟩
        · have hfin : climbOf leaf i.toNat n.toNat xs = (nodeOf (xs.getLast hxs) (climbOf leaf (i.toNat - splitOf n.toNat) (n.toNat - splitOf n.toNat) (xs.take (xs.length - 1))).1, (climbOf leaf (i.toNat - splitOf n.toNat) (n.toNat - splitOf n.toNat) (xs.take (xs.length - 1))).2) := by
            conv => lhs; rw [climbOf]
            rw [if_neg (by omega), dif_neg hxs, if_neg (by omega)]
          rw [hfin]
          clear hfin
          generalize hrl : xs.getLast hxs = hlast at *
          generalize hrt : xs.take (xs.length - 1) = rest at *
          have HR1 := Lib.hid hrl
          have HR2 := Lib.hid hrt
          clear hrl hrt
          go_enter Try.func34, Try.ntmps34
          go_wp2_with (go_at_call 30; refine (rsplit_any _ _ (by omega) (by omega)).mono ?_; rintro e w1 ⟨rfl, rfl⟩)
          refine (I1.out _ _ _ (by omega) (by omega) (by omega) (by first | assumption | exact Below.refl _ _)).mono ?_
          rintro e w2 ⟨rfl, hb2⟩
          go_wp2_with fail
          refine (I3.out _ _ _ hb2).mono ?_
          rintro e w3 ⟨rfl, hb3⟩
          go_wp2
          go_ret2
          exact ⟨rfl, hb3⟩

def verifyOf (root leaf i n : Int) (xs : List Int) : Bool :=
  if i < 0 ∨ n ≤ i then false else (climbOf leaf i.toNat n.toNat xs).2 && ((climbOf leaf i.toNat n.toNat xs).1 == root)


set_option maxHeartbeats 1000000 in
theorem verify_any (root leaf i n : Int) (a : Option Addr) (c : Nat) (xs : List Int) (w : World) (hn : n ≤ 9223372036854775807) (hx : Ints .u64 w a xs) (hc : xs.length ≤ c) (hl : xs.length ≤ 140737488351000) :
    Calls Try.prog 16 #[.int .u64 root, .int .u64 leaf, .int .i64 i, .int .i64 n, .slice a xs.length c] w fun e w' => e = .returned (.bool (verifyOf root leaf i n xs)) ∧ Below w.heap.size w w' := by
  unfold verifyOf
  by_cases h0 : i < 0
  · rw [if_pos (.inl h0)]
    have d0 : decide (i < 0) = true := decide_eq_true h0
    go_enter Try.func16, Try.ntmps16
    go_wp2
    go_ret
    exact ⟨rfl, Below.refl _ _⟩
  · have d0 : decide (i < 0) = false := decide_eq_false h0
    by_cases h1 : n ≤ i
    · rw [if_pos (.inr h1)]
      have d1 : decide (i ≥ n) = true := decide_eq_true h1
      go_enter Try.func16, Try.ntmps16
      go_wp2
      go_ret
      exact ⟨rfl, Below.refl _ _⟩
    · rw [if_neg (by omega)]
      have d1 : decide (i ≥ n) = false := decide_eq_false h1
      have C := climb_any xs.length leaf i n a c xs w (Nat.le_refl _) (by omega) (by omega) hn hx hc hl
      generalize climbOf leaf i.toNat n.toNat xs = r at *
      obtain ⟨x, ok⟩ := r
      have CC := Lib.hid C
      clear C
      cases ok with
      | false =>
        go_enter Try.func16, Try.ntmps16
        go_wp2_with fail
        refine CC.out.mono ?_
        rintro e w1 ⟨rfl, hb⟩
        go_wp2
        go_ret
        exact ⟨rfl, hb⟩
      | true =>
        go_enter Try.func16, Try.ntmps16
        go_wp2_with fail
        refine CC.out.mono ?_
        rintro e w1 ⟨rfl, hb⟩
        go_wp2
        go_ret
        exact ⟨rfl, hb⟩


set_option maxHeartbeats 1000000 in
theorem rverify_any (root leaf i n : Int) (a : Option Addr) (c : Nat) (xs : List Int) (w : World) (hn : n ≤ 9223372036854775807) (hx : Ints .u64 w a xs) (hc : xs.length ≤ c) (hl : xs.length ≤ 140737488351000) :
    Calls Try.prog 17 #[.int .u64 root, .int .u64 leaf, .int .i64 i, .int .i64 n, .slice a xs.length c] w fun e w' => e = .returned (.bool (verifyOf root leaf i n xs)) ∧ Below w.heap.size w w' := by
  unfold verifyOf
  by_cases h0 : i < 0
  · rw [if_pos (.inl h0)]
    have d0 : decide (i < 0) = true := decide_eq_true h0
    go_enter Try.func17, Try.ntmps17
    go_wp2
    go_ret
    exact ⟨rfl, Below.refl _ _⟩
  · have d0 : decide (i < 0) = false := decide_eq_false h0
    by_cases h1 : n ≤ i
    · rw [if_pos (.inr h1)]
      have d1 : decide (i ≥ n) = true := decide_eq_true h1
      go_enter Try.func17, Try.ntmps17
      go_wp2
      go_ret
      exact ⟨rfl, Below.refl _ _⟩
    · rw [if_neg (by omega)]
      have d1 : decide (i ≥ n) = false := decide_eq_false h1
      have C := reach_any xs.length leaf i n a c xs w (Nat.le_refl _) (by omega) (by omega) hn hx hc hl
      generalize climbOf leaf i.toNat n.toNat xs = r at *
      obtain ⟨x, ok⟩ := r
      have CC := Lib.hid C
      clear C
      cases ok with
      | false =>
        go_enter Try.func17, Try.ntmps17
        go_wp2_with fail
        refine CC.out.mono ?_
        rintro e w1 ⟨rfl, hb⟩
        go_wp2
        go_ret
        exact ⟨rfl, hb⟩
      | true =>
        go_enter Try.func17, Try.ntmps17
        go_wp2_with fail
        refine CC.out.mono ?_
        rintro e w1 ⟨rfl, hb⟩
        go_wp2
        go_ret
        exact ⟨rfl, hb⟩

end Go.Proofs.Ytibakdebmclkiaa
