/- The contracts of the verification of a link, of the program and of the reference: both return one function of the arguments. -/
import Derived.Test.YtibakdebmclkiaaA5
namespace Go.Proofs.Ytibakdebmclkiaa
open Go.RowKit
set_option linter.unusedVariables false
set_option linter.unusedSimpArgs false

/-- The two hashes to which a link leads, and whether its length is right. -/
def growOf (old : Int) (m n : Nat) (p : List Int) (top : Bool) : Int × Int × Bool :=
  if m = n then (if top = true then (old, old, decide (p.length = 0)) else if p.length = 1 then (p.getD 0 0, p.getD 0 0, true) else (0, 0, false))
  else if h : p = [] then (0, 0, false)
  else if m ≤ splitOf n then
    ((growOf old m (splitOf n) (p.take (p.length - 1)) top).1, nodeOf (growOf old m (splitOf n) (p.take (p.length - 1)) top).2.1 (p.getLast h), (growOf old m (splitOf n) (p.take (p.length - 1)) top).2.2)
  else
    (nodeOf (p.getLast h) (growOf old (m - splitOf n) (n - splitOf n) (p.take (p.length - 1)) false).1, nodeOf (p.getLast h) (growOf old (m - splitOf n) (n - splitOf n) (p.take (p.length - 1)) false).2.1, (growOf old (m - splitOf n) (n - splitOf n) (p.take (p.length - 1)) false).2.2)
termination_by p.length
decreasing_by
  all_goals have := List.length_pos_iff.2 h; rw [List.length_take]; omega

theorem grow_end (old : Int) (m : Nat) (p : List Int) : growOf old m m p true = (old, old, decide (p.length = 0)) := by rw [growOf, if_pos rfl, if_pos rfl]
theorem grow_one (old : Int) (m : Nat) (p : List Int) (h : p.length = 1) : growOf old m m p false = (p.getD 0 0, p.getD 0 0, true) := by rw [growOf, if_pos rfl, if_neg (by decide), if_pos h]
theorem grow_not (old : Int) (m : Nat) (p : List Int) (h : p.length ≠ 1) : growOf old m m p false = (0, 0, false) := by rw [growOf, if_pos rfl, if_neg (by decide), if_neg h]

set_option maxHeartbeats 2000000 in
theorem grow_any_same (old m : Int) (a : Option Addr) (c : Nat) (xs : List Int) (top : Bool) (w : World) (h0 : 1 ≤ m) (hx : Ints .u64 w a xs) (hc : xs.length ≤ c) (hl : xs.length ≤ 140737488351000) :
    Calls Try.prog 35 #[.int .u64 old, .int .i64 m, .int .i64 m, .slice a xs.length c, .bool top] w fun e w' => e = .returned (.tuple #[.int .u64 (growOf old m.toNat m.toNat xs top).1, .int .u64 (growOf old m.toNat m.toNat xs top).2.1, .bool (growOf old m.toNat m.toNat xs top).2.2]) ∧ Below w.heap.size w w' := by
  cases top with
  | true =>
    have hdec : decide (xs.length = 0) = ((xs.length : Int) == 0) := Bool.eq_iff_iff.2 (by simp)
    rw [grow_end, hdec]
    clear hdec
    go_enter Try.func35, Try.ntmps35
    go_wp2
    go_ret3
    exact ⟨rfl, Below.refl _ _⟩
  | false =>
    by_cases h1 : xs.length = 1
    · rw [grow_one _ _ _ h1]
      obtain ⟨y, rfl⟩ : ∃ y, xs = [y] := List.length_eq_one_iff.1 h1
      obtain ⟨x, rfl, hcell⟩ := hx.at (i := 0) (by simp)
      have hc0 : w.cell? x = some (.int .u64 y) := hcell
      clear hx hcell
      go_enter Try.func35, Try.ntmps35
      go_wp2
      go_quiet (fail)
      go_wp2
      go_ret3
      exact ⟨rfl, below_drewN (Below.refl _ _) _⟩
    · rw [grow_not _ _ _ h1]
      have q1 : ((xs.length : Int) != 1) = true := by rw [bne_iff_ne]; omega
      go_enter Try.func35, Try.ntmps35
      go_wp2
      go_ret3
      exact ⟨rfl, Below.refl _ _⟩

set_option maxHeartbeats 2000000 in
theorem grow_any (d : Nat) : ∀ (old m n : Int) (a : Option Addr) (c : Nat) (xs : List Int) (top : Bool) (w : World), xs.length ≤ d → 1 ≤ m → m ≤ n → n ≤ 9223372036854775807 → Ints .u64 w a xs → xs.length ≤ c → xs.length ≤ 140737488351000 →
    Calls Try.prog 35 #[.int .u64 old, .int .i64 m, .int .i64 n, .slice a xs.length c, .bool top] w fun e w' => e = .returned (.tuple #[.int .u64 (growOf old m.toNat n.toNat xs top).1, .int .u64 (growOf old m.toNat n.toNat xs top).2.1, .bool (growOf old m.toNat n.toNat xs top).2.2]) ∧ Below w.heap.size w w' := by
  induction d with
  | zero =>
    intro old m n a c xs top w hd h0 hm hn hx hc hl
    by_cases h1 : m = n
    · subst h1
      exact grow_any_same old m a c xs top w h0 hx hc hl
    obtain rfl : xs = [] := List.eq_nil_of_length_eq_zero (by omega)
    have q1 : (m == n) = false := beq_eq_false_iff_ne.2 h1
    have hfin : growOf old m.toNat n.toNat [] top = (0, 0, false) := by rw [growOf, if_neg (by omega), dif_pos rfl]
    rw [hfin]
    clear hfin
    go_enter Try.func35, Try.ntmps35
    go_wp2_with (go_at_call 43; refine (last_nil _ _ _).mono ?_; rintro e w1 ⟨rfl, rfl⟩)
    go_ret3
    exact ⟨rfl, Below.refl _ _⟩
  | succ d ih =>
    intro old m n a c xs top w hd h0 hm hn hx hc hl
    by_cases h1 : m = n
    · subst h1
      exact grow_any_same old m a c xs top w h0 hx hc hl
    have q1 : (m == n) = false := beq_eq_false_iff_ne.2 h1
    by_cases hxs : xs = []
    · subst hxs
      have hfin : growOf old m.toNat n.toNat [] top = (0, 0, false) := by rw [growOf, if_neg (by omega), dif_pos rfl]
      rw [hfin]
      clear hfin
      go_enter Try.func35, Try.ntmps35
      go_wp2_with (go_at_call 43; refine (last_nil _ _ _).mono ?_; rintro e w1 ⟨rfl, rfl⟩)
      go_ret3
      exact ⟨rfl, Below.refl _ _⟩
    have hpos := List.length_pos_iff.2 hxs
    have l1 : (xs.take (xs.length - 1)).length = xs.length - 1 := by rw [List.length_take]; omega
    have s1 := splitOf_lt (n := n.toNat) (by omega)
    have s2 := splitOf_pos n.toNat
    have i1 : ∀ (m' n' : Int) (top' : Bool) wx, 1 ≤ m' → m' ≤ n' → n' ≤ 9223372036854775807 → Below w.heap.size w wx → Calls Try.prog 35 #[.int .u64 old, .int .i64 m', .int .i64 n', .slice a (xs.length - 1) c, .bool top'] wx fun e w' => e = .returned (.tuple #[.int .u64 (growOf old m'.toNat n'.toNat (xs.take (xs.length - 1)) top').1, .int .u64 (growOf old m'.toNat n'.toNat (xs.take (xs.length - 1)) top').2.1, .bool (growOf old m'.toNat n'.toNat (xs.take (xs.length - 1)) top').2.2]) ∧ Below w.heap.size w w' := by
      intro m' n' top' wx a1 a2 a3 hb
      have := ih old m' n' a c (xs.take (xs.length - 1)) top' wx (by omega) a1 a2 a3 ((hx.take _).below hb) (by omega) (by omega)
      rw [l1] at this
      exact this.mono fun e w' h => ⟨h.1, Below.next hb h.2⟩
    have i3 : ∀ x y wx, Below w.heap.size w wx → Calls Try.prog 22 #[.int .u64 x, .int .u64 y] wx fun e w' => e = .returned (.int .u64 (nodeOf x y)) ∧ Below w.heap.size w w' :=
      fun x y wx hb => (node_any x y wx).mono fun e w' h => ⟨h.1, Below.next hb h.2⟩
    have I1 := Lib.hid i1
    have I3 := Lib.hid i3
    have L := last_any a c xs w hxs hx hc hl
    have LL := Lib.hid L
    clear L
    clear i1 i3 ih
    by_cases hik : m ≤ splitOf n.toNat
    · have hfin : growOf old m.toNat n.toNat xs top = ((growOf old m.toNat (splitOf n.toNat) (xs.take (xs.length - 1)) top).1, nodeOf (growOf old m.toNat (splitOf n.toNat) (xs.take (xs.length - 1)) top).2.1 (xs.getLast hxs), (growOf old m.toNat (splitOf n.toNat) (xs.take (xs.length - 1)) top).2.2) := by
        conv => lhs; rw [growOf]
        rw [if_neg (by omega), dif_neg hxs, if_pos (by omega)]
      rw [hfin]
      clear hfin
      generalize hrl : xs.getLast hxs = hlast at *
      generalize hrt : xs.take (xs.length - 1) = rest at *
      have HR1 := Lib.hid hrl
      have HR2 := Lib.hid hrt
      clear hrl hrt
      go_enter Try.func35, Try.ntmps35
      go_wp2_with fail
      refine LL.out.mono ?_
      rintro e w1 ⟨rfl, hb1⟩
      go_wp2_with (go_at_call 28; refine (split_any _ _ (by omega) (by omega)).mono ?_; rintro e w1 ⟨rfl, rfl⟩)
      refine (I1.out _ _ _ _ (by omega) (by omega) (by omega) (by first | assumption | exact Below.refl _ _)).mono ?_
      rintro e w2 ⟨rfl, hb2⟩
      simp only [Int.toNat_natCast]
      go_wp2_with fail
      refine (I3.out _ _ _ hb2).mono ?_
      rintro e w3 ⟨rfl, hb3⟩
      go_wp2
      go_ret3
      exact ⟨rfl, hb3⟩
    · have hfin : growOf old m.toNat n.toNat xs top = (nodeOf (xs.getLast hxs) (growOf old (m.toNat - splitOf n.toNat) (n.toNat - splitOf n.toNat) (xs.take (xs.length - 1)) false).1, nodeOf (xs.getLast hxs) (growOf old (m.toNat - splitOf n.toNat) (n.toNat - splitOf n.toNat) (xs.take (xs.length - 1)) false).2.1, (growOf old (m.toNat - splitOf n.toNat) (n.toNat - splitOf n.toNat) (xs.take (xs.length - 1)) false).2.2) := by
        conv => lhs; rw [growOf]
        rw [if_neg (by omega), dif_neg hxs, if_neg (by omega)]
      rw [hfin]
      clear hfin
      generalize hrl : xs.getLast hxs = hlast at *
      generalize hrt : xs.take (xs.length - 1) = rest at *
      have HR1 := Lib.hid hrl
      have HR2 := Lib.hid hrt
      clear hrl hrt
      go_enter Try.func35, Try.ntmps35
      go_wp2_with fail
      refine LL.out.mono ?_
      rintro e w1 ⟨rfl, hb1⟩
      go_wp2_with (go_at_call 28; refine (split_any _ _ (by omega) (by omega)).mono ?_; rintro e w1 ⟨rfl, rfl⟩)
      refine (I1.out _ _ _ _ (by omega) (by omega) (by omega) (by first | assumption | exact Below.refl _ _)).mono ?_
      rintro e w2 ⟨rfl, hb2⟩
      go_wp2_with fail
      refine (I3.out _ _ _ hb2).mono ?_
      rintro e w3 ⟨rfl, hb3⟩
      go_wp2_with fail
      refine (I3.out _ _ _ hb3).mono ?_
      rintro e w4 ⟨rfl, hb4⟩
      go_wp2
      go_ret3
      exact ⟨rfl, hb4⟩

set_option maxHeartbeats 2000000 in
theorem rgrow_any_same (old m : Int) (a : Option Addr) (c : Nat) (xs : List Int) (top : Bool) (w : World) (h0 : 1 ≤ m) (hx : Ints .u64 w a xs) (hc : xs.length ≤ c) (hl : xs.length ≤ 140737488351000) :
    Calls Try.prog 36 #[.int .u64 old, .int .i64 m, .int .i64 m, .bool top, .slice a xs.length c] w fun e w' => e = .returned (.tuple #[.int .u64 (growOf old m.toNat m.toNat xs top).1, .int .u64 (growOf old m.toNat m.toNat xs top).2.1, .bool (growOf old m.toNat m.toNat xs top).2.2]) ∧ Below w.heap.size w w' := by
  cases top with
  | true =>
    have hdec : decide (xs.length = 0) = ((xs.length : Int) == 0) := Bool.eq_iff_iff.2 (by simp)
    rw [grow_end, hdec]
    clear hdec
    go_enter Try.func36, Try.ntmps36
    go_wp2
    go_ret3
    exact ⟨rfl, Below.refl _ _⟩
  | false =>
    by_cases h1 : xs.length = 1
    · rw [grow_one _ _ _ h1]
      obtain ⟨y, rfl⟩ : ∃ y, xs = [y] := List.length_eq_one_iff.1 h1
      obtain ⟨x, rfl, hcell⟩ := hx.at (i := 0) (by simp)
      have hc0 : w.cell? x = some (.int .u64 y) := hcell
      clear hx hcell
      go_enter Try.func36, Try.ntmps36
      go_wp2
      go_quiet (fail)
      go_wp2
      go_ret3
      exact ⟨rfl, below_drewN (Below.refl _ _) _⟩
    · rw [grow_not _ _ _ h1]
      have q1 : ((xs.length : Int) != 1) = true := by rw [bne_iff_ne]; omega
      go_enter Try.func36, Try.ntmps36
      go_wp2
      go_ret3
      exact ⟨rfl, Below.refl _ _⟩

set_option maxHeartbeats 2000000 in
theorem rgrow_any (d : Nat) : ∀ (old m n : Int) (a : Option Addr) (c : Nat) (xs : List Int) (top : Bool) (w : World), xs.length ≤ d → 1 ≤ m → m ≤ n → n ≤ 9223372036854775807 → Ints .u64 w a xs → xs.length ≤ c → xs.length ≤ 140737488351000 →
    Calls Try.prog 36 #[.int .u64 old, .int .i64 m, .int .i64 n, .bool top, .slice a xs.length c] w fun e w' => e = .returned (.tuple #[.int .u64 (growOf old m.toNat n.toNat xs top).1, .int .u64 (growOf old m.toNat n.toNat xs top).2.1, .bool (growOf old m.toNat n.toNat xs top).2.2]) ∧ Below w.heap.size w w' := by
  induction d with
  | zero =>
    intro old m n a c xs top w hd h0 hm hn hx hc hl
    by_cases h1 : m = n
    · subst h1
      exact rgrow_any_same old m a c xs top w h0 hx hc hl
    obtain rfl : xs = [] := List.eq_nil_of_length_eq_zero (by omega)
    have q1 : (m == n) = false := beq_eq_false_iff_ne.2 h1
    have hfin : growOf old m.toNat n.toNat [] top = (0, 0, false) := by rw [growOf, if_neg (by omega), dif_pos rfl]
    rw [hfin]
    clear hfin
    go_enter Try.func36, Try.ntmps36
    go_wp2
    go_ret3
    exact ⟨rfl, Below.refl _ _⟩
  | succ d ih =>
    intro old m n a c xs top w hd h0 hm hn hx hc hl
    by_cases h1 : m = n
    · subst h1
      exact rgrow_any_same old m a c xs top w h0 hx hc hl
    have q1 : (m == n) = false := beq_eq_false_iff_ne.2 h1
    by_cases hxs : xs = []
    · subst hxs
      have hfin : growOf old m.toNat n.toNat [] top = (0, 0, false) := by rw [growOf, if_neg (by omega), dif_pos rfl]
      rw [hfin]
      clear hfin
      go_enter Try.func36, Try.ntmps36
      go_wp2
      go_ret3
      exact ⟨rfl, Below.refl _ _⟩
    have hpos := List.length_pos_iff.2 hxs
    have l1 : (xs.take (xs.length - 1)).length = xs.length - 1 := by rw [List.length_take]; omega
    have s1 := splitOf_lt (n := n.toNat) (by omega)
    have s2 := splitOf_pos n.toNat
    have i1 : ∀ (m' n' : Int) (top' : Bool) wx, 1 ≤ m' → m' ≤ n' → n' ≤ 9223372036854775807 → Below w.heap.size w wx → Calls Try.prog 36 #[.int .u64 old, .int .i64 m', .int .i64 n', .bool top', .slice a (xs.length - 1) c] wx fun e w' => e = .returned (.tuple #[.int .u64 (growOf old m'.toNat n'.toNat (xs.take (xs.length - 1)) top').1, .int .u64 (growOf old m'.toNat n'.toNat (xs.take (xs.length - 1)) top').2.1, .bool (growOf old m'.toNat n'.toNat (xs.take (xs.length - 1)) top').2.2]) ∧ Below w.heap.size w w' := by
      intro m' n' top' wx a1 a2 a3 hb
      have := ih old m' n' a c (xs.take (xs.length - 1)) top' wx (by omega) a1 a2 a3 ((hx.take _).below hb) (by omega) (by omega)
      rw [l1] at this
      exact this.mono fun e w' h => ⟨h.1, Below.next hb h.2⟩
    have i3 : ∀ x y wx, Below w.heap.size w wx → Calls Try.prog 23 #[.int .u64 x, .int .u64 y] wx fun e w' => e = .returned (.int .u64 (nodeOf x y)) ∧ Below w.heap.size w w' :=
      fun x y wx hb => (rnode_any x y wx).mono fun e w' h => ⟨h.1, Below.next hb h.2⟩
    have I1 := Lib.hid i1
    have I3 := Lib.hid i3
    obtain ⟨x, rfl, hcell⟩ := hx.at (i := xs.length - 1) (by omega)
    have hg : xs.getD (xs.length - 1) 0 = xs.getLast hxs := by rw [List.getLast_eq_getElem]; simp; rw [List.getElem?_eq_getElem (by omega)]; rfl
    rw [hg] at hcell
    obtain ⟨i0, hi0, hz0, hz1, hz2⟩ := info_parts info24
    have hcut := fun W => take_run (P := Try.prog) 22 24 Try.underlying22 hi0 .i64 (some x) xs.length c (xs.length - 1) (by omega) W
    have q2 : ((xs.length : Int) == 0) = false := beq_eq_false_iff_ne.2 (by omega)
    have e1 : (xs.length : Int) - 1 = ((xs.length - 1 : Nat) : Int) := by omega
    have hw : IntKind.i64.wrap ((xs.length : Int) - 1) = ((xs.length - 1 : Nat) : Int) := by rw [e1]; exact IntWalk.i64_in _ (by omega)
    have b1 : ((xs.length - 1 : Nat) : Int) < (xs.length : Int) := by omega
    clear hx hg
    clear i1 i3 ih
    by_cases hik : m ≤ splitOf n.toNat
    · have hfin : growOf old m.toNat n.toNat xs top = ((growOf old m.toNat (splitOf n.toNat) (xs.take (xs.length - 1)) top).1, nodeOf (growOf old m.toNat (splitOf n.toNat) (xs.take (xs.length - 1)) top).2.1 (xs.getLast hxs), (growOf old m.toNat (splitOf n.toNat) (xs.take (xs.length - 1)) top).2.2) := by
        conv => lhs; rw [growOf]
        rw [if_neg (by omega), dif_neg hxs, if_pos (by omega)]
      rw [hfin]
      clear hfin
      generalize hrl : xs.getLast hxs = hlast at *
      generalize hrt : xs.take (xs.length - 1) = rest at *
      have HR1 := Lib.hid hrl
      have HR2 := Lib.hid hrt
      clear hrl hrt
      go_enter Try.func36, Try.ntmps36
      go_wp2_with (go_at_call 30; refine (rsplit_any _ _ (by omega) (by omega)).mono ?_; rintro e w1 ⟨rfl, rfl⟩)
      refine (I1.out _ _ _ _ (by omega) (by omega) (by omega) (by first | assumption | exact Below.refl _ _)).mono ?_
      rintro e w2 ⟨rfl, hb2⟩
      simp only [Int.toNat_natCast]
      go_wp2_with fail
      refine (I3.out _ _ _ hb2).mono ?_
      rintro e w3 ⟨rfl, hb3⟩
      go_wp2
      go_ret3
      exact ⟨rfl, hb3⟩
    · have hfin : growOf old m.toNat n.toNat xs top = (nodeOf (xs.getLast hxs) (growOf old (m.toNat - splitOf n.toNat) (n.toNat - splitOf n.toNat) (xs.take (xs.length - 1)) false).1, nodeOf (xs.getLast hxs) (growOf old (m.toNat - splitOf n.toNat) (n.toNat - splitOf n.toNat) (xs.take (xs.length - 1)) false).2.1, (growOf old (m.toNat - splitOf n.toNat) (n.toNat - splitOf n.toNat) (xs.take (xs.length - 1)) false).2.2) := by
        conv => lhs; rw [growOf]
        rw [if_neg (by omega), dif_neg hxs, if_neg (by omega)]
      rw [hfin]
      clear hfin
      generalize hrl : xs.getLast hxs = hlast at *
      generalize hrt : xs.take (xs.length - 1) = rest at *
      have HR1 := Lib.hid hrl
      have HR2 := Lib.hid hrt
      clear hrl hrt
      go_enter Try.func36, Try.ntmps36
      go_wp2_with (go_at_call 30; refine (rsplit_any _ _ (by omega) (by omega)).mono ?_; rintro e w1 ⟨rfl, rfl⟩)
      refine (I1.out _ _ _ _ (by omega) (by omega) (by omega) (by first | assumption | exact Below.refl _ _)).mono ?_
      rintro e w2 ⟨rfl, hb2⟩
      go_wp2_with fail
      refine (I3.out _ _ _ hb2).mono ?_
      rintro e w3 ⟨rfl, hb3⟩
      go_wp2_with fail
      refine (I3.out _ _ _ hb3).mono ?_
      rintro e w4 ⟨rfl, hb4⟩
      go_wp2
      go_ret3
      exact ⟨rfl, hb4⟩

def extendsOf (old root m n : Int) (xs : List Int) : Bool :=
  if m < 1 ∨ n < m then false else (growOf old m.toNat n.toNat xs true).2.2 && (((growOf old m.toNat n.toNat xs true).1 == old) && ((growOf old m.toNat n.toNat xs true).2.1 == root))

set_option maxHeartbeats 1000000 in
theorem extends_any (old root m n : Int) (a : Option Addr) (c : Nat) (xs : List Int) (w : World) (hn : n ≤ 9223372036854775807) (hx : Ints .u64 w a xs) (hc : xs.length ≤ c) (hl : xs.length ≤ 140737488351000) :
    Calls Try.prog 18 #[.int .u64 old, .int .u64 root, .int .i64 m, .int .i64 n, .slice a xs.length c] w fun e w' => e = .returned (.bool (extendsOf old root m n xs)) ∧ Below w.heap.size w w' := by
  unfold extendsOf
  by_cases h0 : m < 1
  · rw [if_pos (.inl h0)]
    have d0 : decide (m < 1) = true := decide_eq_true h0
    go_enter Try.func18, Try.ntmps18
    go_wp2
    go_ret
    exact ⟨rfl, Below.refl _ _⟩
  · have d0 : decide (m < 1) = false := decide_eq_false h0
    by_cases h1 : n < m
    · rw [if_pos (.inr h1)]
      have d1 : decide (m > n) = true := decide_eq_true h1
      go_enter Try.func18, Try.ntmps18
      go_wp2
      go_ret
      exact ⟨rfl, Below.refl _ _⟩
    · rw [if_neg (by omega)]
      have d1 : decide (m > n) = false := decide_eq_false h1
      have C := grow_any xs.length old m n a c xs true w (Nat.le_refl _) (by omega) (by omega) hn hx hc hl
      generalize growOf old m.toNat n.toNat xs true = r at *
      obtain ⟨x, y, ok⟩ := r
      have CC := Lib.hid C
      clear C
      cases ok with
      | false =>
        go_enter Try.func18, Try.ntmps18
        go_wp2_with fail
        refine CC.out.mono ?_
        rintro e w1 ⟨rfl, hb⟩
        go_wp2
        go_ret
        exact ⟨rfl, hb⟩
      | true =>
        by_cases hxo : x = old
        · have qx : (x == old) = true := beq_iff_eq.2 hxo
          simp only [qx, Bool.true_and]
          go_enter Try.func18, Try.ntmps18
          go_wp2_with fail
          refine CC.out.mono ?_
          rintro e w1 ⟨rfl, hb⟩
          go_wp2
          go_ret
          exact ⟨rfl, hb⟩
        · have qx : (x == old) = false := beq_eq_false_iff_ne.2 hxo
          simp only [qx, Bool.true_and, Bool.false_and]
          go_enter Try.func18, Try.ntmps18
          go_wp2_with fail
          refine CC.out.mono ?_
          rintro e w1 ⟨rfl, hb⟩
          go_wp2
          go_ret
          exact ⟨rfl, hb⟩

set_option maxHeartbeats 1000000 in
theorem rextends_any (old root m n : Int) (a : Option Addr) (c : Nat) (xs : List Int) (w : World) (hn : n ≤ 9223372036854775807) (hx : Ints .u64 w a xs) (hc : xs.length ≤ c) (hl : xs.length ≤ 140737488351000) :
    Calls Try.prog 19 #[.int .u64 old, .int .u64 root, .int .i64 m, .int .i64 n, .slice a xs.length c] w fun e w' => e = .returned (.bool (extendsOf old root m n xs)) ∧ Below w.heap.size w w' := by
  unfold extendsOf
  by_cases h0 : m < 1
  · rw [if_pos (.inl h0)]
    have d0 : decide (m < 1) = true := decide_eq_true h0
    go_enter Try.func19, Try.ntmps19
    go_wp2
    go_ret
    exact ⟨rfl, Below.refl _ _⟩
  · have d0 : decide (m < 1) = false := decide_eq_false h0
    by_cases h1 : n < m
    · rw [if_pos (.inr h1)]
      have d1 : decide (m > n) = true := decide_eq_true h1
      go_enter Try.func19, Try.ntmps19
      go_wp2
      go_ret
      exact ⟨rfl, Below.refl _ _⟩
    · rw [if_neg (by omega)]
      have d1 : decide (m > n) = false := decide_eq_false h1
      have C := rgrow_any xs.length old m n a c xs true w (Nat.le_refl _) (by omega) (by omega) hn hx hc hl
      generalize growOf old m.toNat n.toNat xs true = r at *
      obtain ⟨x, y, ok⟩ := r
      have CC := Lib.hid C
      clear C
      cases ok with
      | false =>
        go_enter Try.func19, Try.ntmps19
        go_wp2_with fail
        refine CC.out.mono ?_
        rintro e w1 ⟨rfl, hb⟩
        go_wp2
        go_ret
        exact ⟨rfl, hb⟩
      | true =>
        by_cases hxo : x = old
        · have qx : (x == old) = true := beq_iff_eq.2 hxo
          simp only [qx, Bool.true_and]
          go_enter Try.func19, Try.ntmps19
          go_wp2_with fail
          refine CC.out.mono ?_
          rintro e w1 ⟨rfl, hb⟩
          go_wp2
          go_ret
          exact ⟨rfl, hb⟩
        · have qx : (x == old) = false := beq_eq_false_iff_ne.2 hxo
          simp only [qx, Bool.true_and, Bool.false_and]
          go_enter Try.func19, Try.ntmps19
          go_wp2_with fail
          refine CC.out.mono ?_
          rintro e w1 ⟨rfl, hb⟩
          go_wp2
          go_ret
          exact ⟨rfl, hb⟩

end Go.Proofs.Ytibakdebmclkiaa
