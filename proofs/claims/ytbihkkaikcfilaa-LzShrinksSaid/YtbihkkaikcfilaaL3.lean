/- The contracts of the reader of a compressed form: a number, a token. -/
import Derived.Test.YtbihkkaikcfilaaL2
namespace Go.Proofs.Ytbihkkaikcfilaa
open Go.RowKit
set_option linter.unusedVariables false
set_option linter.unusedSimpArgs false

theorem quiet_left {P : Program} {f : FuncId} {args : Array Value} {w : World} {n : Nat} {v : Value}
    (h : Calls P f args (w.drewN n) fun e w' => e = .returned v ∧ w.drewN n = w') : Calls P f args (w.drewN n) fun e w'' => e = .returned v ∧ ∃ m, w'' = w.drewN m :=
  h.mono fun _ _ ⟨he, hm⟩ => ⟨he, n, hm.symm⟩

/-- A reader: its bytes and its place, in block g. -/
structure Rdr (w : World) (g : Nat) (a : Option Addr) (n c : Nat) (p : Int) : Prop where
  f0 : w.cell? ⟨g, 0, none⟩ = some (.slice a n c)
  f1 : w.cell? ⟨g, 1, none⟩ = some (.int .i64 p)
  z1 : w.frozen? ⟨g, 1, none⟩ = false

theorem grown_drewN {w w' : World} {row : Option Nat} (h : w.grownBy w' row) (n : Nat) : w.grownBy (w'.drewN n) row := ⟨h.os, h.tape, h.output, h.size, h.block⟩
theorem grown_set {w w' : World} {g : Nat} (h : w.grownBy w' (some g)) (i : Nat) (v : Value) : w.grownBy (w'.setCell ⟨g, i, none⟩ v) (some g) :=
  ⟨h.os, h.tape, h.output, by simpa [World.setCell] using h.size, fun k hk hne => (Below.heap_setCell w' ⟨g, i, none⟩ v k (by rintro rfl; exact hne rfl)).trans (h.block k hk hne)⟩
theorem grown_trans {a b c : World} {row : Option Nat} (h : a.grownBy b row) (k : b.grownBy c row) : a.grownBy c row :=
  ⟨k.os.trans h.os, k.tape.trans h.tape, k.output.trans h.output, Nat.le_trans h.size k.size, fun i hi hne => (k.block i (Nat.lt_of_lt_of_le hi h.size) hne).trans (h.block i hi hne)⟩
theorem Rdr.drewN {w : World} {g : Nat} {a : Option Addr} {n c : Nat} {p : Int} (h : Rdr w g a n c p) (m : Nat) : Rdr (w.drewN m) g a n c p := ⟨h.f0, h.f1, h.z1⟩
theorem Rdr.lt {w : World} {g : Nat} {a : Option Addr} {n c : Nat} {p : Int} (h : Rdr w g a n c p) : g < w.heap.size := World.block_lt_of_cell? _ ⟨g, 0, none⟩ h.f0
theorem Rdr.put {w : World} {g : Nat} {a : Option Addr} {n c : Nat} {p : Int} (h : Rdr w g a n c p) (q : Int) : Rdr (w.setCell ⟨g, 1, none⟩ (.int .i64 q)) g a n c q := by
  refine ⟨?_, ?_, ?_⟩
  · rw [World.cell?_setCell_other _ _ _ _ (by simp)]; exact h.f0
  · rw [World.cell?_setCell_same _ _ _ h.f1]
  · rw [World.frozen?_setCell]; exact h.z1

set_option maxHeartbeats 2000000 in
theorem number_any (g p : Nat) (a : Option Addr) (c : Nat) (xs : List Int) (w : World) (hr : Rdr w g a xs.length c p) (hp : p ≤ xs.length) (hx : Ints .u8 w a xs) (hb : AllB xs) (hc : xs.length ≤ c) (hl : xs.length ≤ 140737488351000) :
    Calls Try.prog 24 #[.pointer (some ⟨g, 0, none⟩)] w fun e w' => e = .returned (.tuple #[.int .u64 (uintOf xs p).1, .int .i64 (uintOf xs p).2.2]) ∧ Rdr w' g a xs.length c (if (uintOf xs p).2.2 = 0 then (uintOf xs p).2.1 else p) ∧ w.grownBy w' (some g) := by
  have U : ∀ n, Calls Try.prog 27 #[.slice a xs.length c, .int .i64 p] (w.drewN n) fun e w' => e = .returned (u3 (uintOf xs p)) ∧ w.drewN n = w' :=
    fun n => uint_any p a c xs (w.drewN n) hp (hx.below (below_drewN (Below.refl _ _) n)) hb hc hl
  obtain ⟨f0, f1, z1⟩ := hr
  have HR : Hid (Rdr w g a xs.length c p) := ⟨f0, f1, z1⟩
  generalize uintOf xs p = u at *
  obtain ⟨v, nx, er⟩ := u
  unfold u3 at U
  have UU := Lib.hid U
  clear U hx
  by_cases he : er = 0
  · subst he
    simp only [if_true]
    go_enter Try.func24, Try.ntmps24
    go_wp2
    go_quiet ((go_at_call 27; exact quiet_left (UU.out _)))
    go_wp2
    go_ret2
    exact ⟨rfl, (HR.out.put nx).drewN _, grown_drewN (grown_set (World.grownBy.refl _ _) 1 _) _⟩
  · have q0 : (er == 0) = false := beq_eq_false_iff_ne.2 he
    simp only [he, if_false]
    go_enter Try.func24, Try.ntmps24
    go_wp2
    go_quiet ((go_at_call 27; exact quiet_left (UU.out _)))
    go_wp2
    go_ret2
    exact ⟨rfl, HR.out.drewN _, grown_drewN (World.grownBy.refl _ _) _⟩

set_option maxHeartbeats 4000000 in
theorem token_pos (g p : Nat) (size most : Int) (a : Option Addr) (c : Nat) (xs : List Int) (w : World) (hr : Rdr w g a xs.length c p) (hp : p ≤ xs.length) (hx : Ints .u8 w a xs) (hb : AllB xs) (hc : xs.length ≤ c) (hl : xs.length ≤ 1000000)
    (hs0 : 0 ≤ size) (hs1 : size ≤ 1000000) (hm1 : most ≤ 1000000) (hm2 : -9223372036854775808 ≤ most - size) (hg : ∀ q, a = some q → xs ≠ [] → q.block ≠ g) (hR : 0 ≤ most - size) :
    Calls Try.prog 17 #[.pointer (some ⟨g, 0, none⟩), .int .i64 size, .int .i64 most] w fun e w' => e = .returned (.tuple #[.int .i64 (tokOf xs p size most).n, .int .i64 (tokOf xs p size most).d, .int .i64 (tokOf xs p size most).e]) ∧ Rdr w' g a xs.length c (tokOf xs p size most).next ∧ w.grownBy w' (some g) := by
  have N1 := number_any g p a c xs w hr hp hx hb hc (by omega)
  have N2 : ∀ (q : Nat) wx, q ≤ xs.length → Rdr wx g a xs.length c q → w.grownBy wx (some g) → Calls Try.prog 24 #[.pointer (some ⟨g, 0, none⟩)] wx fun e w' => e = .returned (.tuple #[.int .u64 (uintOf xs q).1, .int .i64 (uintOf xs q).2.2]) ∧ Rdr w' g a xs.length c (if (uintOf xs q).2.2 = 0 then (uintOf xs q).2.1 else q) ∧ w.grownBy w' (some g) := by
    intro q wx hq hrx hgx
    have hxx : Ints .u8 wx a xs := by
      rcases hx with rfl | ⟨y, rfl, h⟩
      · exact .inl rfl
      · refine .inr ⟨y, rfl, fun i hi => ?_⟩
        have h1 := h i hi
        exact hgx.cell h1 (by rw [add_block]; intro e; exact hg y rfl (by rintro rfl; simp at hi) (by injection e))
    exact (number_any g q a c xs wx hrx hq hxx hb hc (by omega)).mono fun e w' h => ⟨h.1, h.2.1, grown_trans hgx h.2.2⟩
  have hok : ∀ q : Nat, (uintOf xs q).2.2 = 0 → 0 ≤ (uintOf xs q).1 ∧ (uintOf xs q).1 < 18446744073709551616 ∧ (q : Int) < (uintOf xs q).2.1 ∧ (uintOf xs q).2.1 ≤ xs.length := fun q h => by
    have := ug_ok xs q hb 10 0 0 (by omega) (by omega) (by simp) h; simpa [uintOf] using this
  have hmax : max (most - size) 0 = (most - size) := by omega
  have hfin : tokOf xs p size most = tokOf xs p size most := rfl
  conv at hfin => rhs; unfold tokOf
  rw [hmax] at hfin
  change _ = _ at hfin
  have hok1 := hok p
  generalize tokOf xs p size most = T at *
  generalize uintOf xs p = u at *
  obtain ⟨x, nx, er⟩ := u
  simp only at hfin hok1 N1
  clear hx hg hmax
  have NN1 := Lib.hid N1
  clear N1 hr
  by_cases he : er = 0
  · subst he
    simp only [ne_eq, not_true_eq_false, if_false, if_true] at hfin NN1
    obtain ⟨hx0, hx1, hn0, hn1⟩ := hok1 rfl
    obtain ⟨nx, rfl⟩ := Int.eq_ofNat_of_zero_le (show 0 ≤ nx by omega)
    rw [Int.toNat_natCast] at hfin
    by_cases h2 : x / 2 = 0
    · rw [if_pos h2] at hfin
      subst hfin
      have t2 : (x / 2 == 0) = true := beq_iff_eq.2 h2
      clear h2 hok1 hok N2
      go_enter Try.func17, Try.ntmps17
      go_wp2_with fail
      refine NN1.out.mono ?_
      rintro e w1 ⟨rfl, hr1, hg1⟩
      go_wp2
      go_ret3
      exact ⟨rfl, hr1, hg1⟩
    rw [if_neg h2] at hfin
    have t2 : (x / 2 == 0) = false := beq_eq_false_iff_ne.2 h2
    by_cases h3 : x % 2 = 0
    · rw [if_pos h3] at hfin
      have t3 : (x % 2 == 0) = true := beq_iff_eq.2 h3
      by_cases h4 : (most - size) < x / 2
      · rw [if_pos h4] at hfin
        subst hfin
        have t4 : decide (x / 2 > (most - size)) = true := decide_eq_true h4
        clear h2 h3 h4 hok1 hok N2
        go_enter Try.func17, Try.ntmps17
        go_wp2_with fail
        refine NN1.out.mono ?_
        rintro e w1 ⟨rfl, hr1, hg1⟩
        go_wp2
        go_ret3
        exact ⟨rfl, hr1, hg1⟩
      rw [if_neg h4] at hfin
      have t4 : decide (x / 2 > (most - size)) = false := decide_eq_false h4
      have hw : IntKind.i64.wrap ((xs.length : Int) - (nx : Int)) = (xs.length : Int) - nx := IntWalk.i64_in _ (by omega)
      have hw2 : IntKind.u64.wrap ((xs.length : Int) - (nx : Int)) = (xs.length : Int) - nx := IntWalk.u64_in _ (by omega)
      by_cases h5 : (xs.length : Int) - nx < x / 2
      · rw [if_pos h5] at hfin
        subst hfin
        have t5 : decide (x / 2 > (xs.length : Int) - nx) = true := decide_eq_true h5
        clear h2 h3 h4 h5 hok1 hok N2
        go_enter Try.func17, Try.ntmps17
        go_wp2_with fail
        refine NN1.out.mono ?_
        rintro e w1 ⟨rfl, hr1, hg1⟩
        obtain ⟨f0, f1, z1⟩ := hr1
        have hr1 : Hid (Rdr w1 g a xs.length c nx) := ⟨f0, f1, z1⟩
        go_wp2
        go_quiet (fail)
        go_wp2
        go_ret3
        exact ⟨rfl, hr1.out.drewN _, grown_drewN hg1 _⟩
      · rw [if_neg h5] at hfin
        subst hfin
        have t5 : decide (x / 2 > (xs.length : Int) - nx) = false := decide_eq_false h5
        have b6 : x / 2 ≤ 1000000 := by omega
        clear h2 h3 h4 h5 hok1 hok N2
        go_enter Try.func17, Try.ntmps17
        go_wp2_with fail
        refine NN1.out.mono ?_
        rintro e w1 ⟨rfl, hr1, hg1⟩
        obtain ⟨f0, f1, z1⟩ := hr1
        have hr1 : Hid (Rdr w1 g a xs.length c nx) := ⟨f0, f1, z1⟩
        go_wp2
        go_quiet (fail)
        go_wp2
        go_ret3
        exact ⟨rfl, hr1.out.drewN _, grown_drewN hg1 _⟩
    rw [if_neg h3] at hfin
    have t3 : (x % 2 == 0) = false := beq_eq_false_iff_ne.2 h3
    have N2' := fun wx => N2 nx wx (by omega)
    have hok2 := hok nx
    generalize uintOf xs nx = v at *
    obtain ⟨d, nx2, er2⟩ := v
    simp only at hfin hok2 N2'
    have NN2 := Lib.hid N2'
    clear N2' N2 hok hok1
    by_cases he2 : er2 = 0
    · subst he2
      simp only [ne_eq, not_true_eq_false, if_false, if_true] at hfin NN2
      obtain ⟨hd0, hd1, hn2, hn3⟩ := hok2 rfl
      clear hok2
      by_cases h6 : d = 0
      · rw [if_pos (.inl h6)] at hfin
        subst hfin
        have t6 : (d == 0) = true := beq_iff_eq.2 h6
        clear h2 h3 h6
        go_enter Try.func17, Try.ntmps17
        go_wp2_with fail
        refine NN1.out.mono ?_
        rintro e w1 ⟨rfl, hr1, hg1⟩
        obtain ⟨f0, f1, z1⟩ := hr1
        have hr1 : Hid (Rdr w1 g a xs.length c nx) := ⟨f0, f1, z1⟩
        go_wp2
        go_quiet (fail)
        go_wp2_with fail
        refine (NN2.out _ (hr1.out.drewN _) (grown_drewN hg1 _)).mono ?_
        rintro e w2 ⟨rfl, hr2, hg2⟩
        go_wp2
        go_ret3
        exact ⟨rfl, hr2, hg2⟩
      have t6 : (d == 0) = false := beq_eq_false_iff_ne.2 h6
      by_cases h7 : size < d
      · rw [if_pos (.inr h7)] at hfin
        subst hfin
        have t7 : decide (d > size) = true := decide_eq_true h7
        clear h2 h3 h6 h7
        go_enter Try.func17, Try.ntmps17
        go_wp2_with fail
        refine NN1.out.mono ?_
        rintro e w1 ⟨rfl, hr1, hg1⟩
        obtain ⟨f0, f1, z1⟩ := hr1
        have hr1 : Hid (Rdr w1 g a xs.length c nx) := ⟨f0, f1, z1⟩
        go_wp2
        go_quiet (fail)
        go_wp2_with fail
        refine (NN2.out _ (hr1.out.drewN _) (grown_drewN hg1 _)).mono ?_
        rintro e w2 ⟨rfl, hr2, hg2⟩
        go_wp2
        go_ret3
        exact ⟨rfl, hr2, hg2⟩
      rw [if_neg (by omega)] at hfin
      have t7 : decide (d > size) = false := decide_eq_false h7
      by_cases h4 : (most - size) < x / 2
      · rw [if_pos h4] at hfin
        subst hfin
        have t4 : decide (x / 2 > (most - size)) = true := decide_eq_true h4
        clear h2 h3 h4 h6 h7
        go_enter Try.func17, Try.ntmps17
        go_wp2_with fail
        refine NN1.out.mono ?_
        rintro e w1 ⟨rfl, hr1, hg1⟩
        obtain ⟨f0, f1, z1⟩ := hr1
        have hr1 : Hid (Rdr w1 g a xs.length c nx) := ⟨f0, f1, z1⟩
        go_wp2
        go_quiet (fail)
        go_wp2_with fail
        refine (NN2.out _ (hr1.out.drewN _) (grown_drewN hg1 _)).mono ?_
        rintro e w2 ⟨rfl, hr2, hg2⟩
        go_wp2
        go_ret3
        exact ⟨rfl, hr2, hg2⟩
      · rw [if_neg h4] at hfin
        subst hfin
        have t4 : decide (x / 2 > (most - size)) = false := decide_eq_false h4
        have b6 : x / 2 ≤ 1000000 := by omega
        have b7 : d ≤ 1000000 := by omega
        clear h2 h3 h4 h6 h7
        go_enter Try.func17, Try.ntmps17
        go_wp2_with fail
        refine NN1.out.mono ?_
        rintro e w1 ⟨rfl, hr1, hg1⟩
        obtain ⟨f0, f1, z1⟩ := hr1
        have hr1 : Hid (Rdr w1 g a xs.length c nx) := ⟨f0, f1, z1⟩
        go_wp2
        go_quiet (fail)
        go_wp2_with fail
        refine (NN2.out _ (hr1.out.drewN _) (grown_drewN hg1 _)).mono ?_
        rintro e w2 ⟨rfl, hr2, hg2⟩
        go_wp2
        go_ret3
        exact ⟨rfl, hr2, hg2⟩
    · rw [if_pos he2] at hfin
      subst hfin
      have q1 : (er2 != 0) = true := by rw [bne_iff_ne]; exact he2
      simp only [he2, if_false] at NN2
      clear hok2 h2 h3
      go_enter Try.func17, Try.ntmps17
      go_wp2_with fail
      refine NN1.out.mono ?_
      rintro e w1 ⟨rfl, hr1, hg1⟩
      obtain ⟨f0, f1, z1⟩ := hr1
      have hr1 : Hid (Rdr w1 g a xs.length c nx) := ⟨f0, f1, z1⟩
      go_wp2
      go_quiet (fail)
      go_wp2_with fail
      refine (NN2.out _ (hr1.out.drewN _) (grown_drewN hg1 _)).mono ?_
      rintro e w2 ⟨rfl, hr2, hg2⟩
      go_wp2
      go_ret3
      exact ⟨rfl, hr2, hg2⟩
  · rw [if_pos he] at hfin
    subst hfin
    have q0 : (er != 0) = true := by rw [bne_iff_ne]; exact he
    simp only [he, if_false] at NN1
    clear hok1 hok N2
    go_enter Try.func17, Try.ntmps17
    go_wp2_with fail
    refine NN1.out.mono ?_
    rintro e w1 ⟨rfl, hr1, hg1⟩
    go_wp2
    go_ret3
    exact ⟨rfl, hr1, hg1⟩

set_option maxHeartbeats 4000000 in
theorem token_neg (g p : Nat) (size most : Int) (a : Option Addr) (c : Nat) (xs : List Int) (w : World) (hr : Rdr w g a xs.length c p) (hp : p ≤ xs.length) (hx : Ints .u8 w a xs) (hb : AllB xs) (hc : xs.length ≤ c) (hl : xs.length ≤ 1000000)
    (hs0 : 0 ≤ size) (hs1 : size ≤ 1000000) (hm1 : most ≤ 1000000) (hm2 : -9223372036854775808 ≤ most - size) (hg : ∀ q, a = some q → xs ≠ [] → q.block ≠ g) (hR : most - size < 0) :
    Calls Try.prog 17 #[.pointer (some ⟨g, 0, none⟩), .int .i64 size, .int .i64 most] w fun e w' => e = .returned (.tuple #[.int .i64 (tokOf xs p size most).n, .int .i64 (tokOf xs p size most).d, .int .i64 (tokOf xs p size most).e]) ∧ Rdr w' g a xs.length c (tokOf xs p size most).next ∧ w.grownBy w' (some g) := by
  have N1 := number_any g p a c xs w hr hp hx hb hc (by omega)
  have N2 : ∀ (q : Nat) wx, q ≤ xs.length → Rdr wx g a xs.length c q → w.grownBy wx (some g) → Calls Try.prog 24 #[.pointer (some ⟨g, 0, none⟩)] wx fun e w' => e = .returned (.tuple #[.int .u64 (uintOf xs q).1, .int .i64 (uintOf xs q).2.2]) ∧ Rdr w' g a xs.length c (if (uintOf xs q).2.2 = 0 then (uintOf xs q).2.1 else q) ∧ w.grownBy w' (some g) := by
    intro q wx hq hrx hgx
    have hxx : Ints .u8 wx a xs := by
      rcases hx with rfl | ⟨y, rfl, h⟩
      · exact .inl rfl
      · refine .inr ⟨y, rfl, fun i hi => ?_⟩
        have h1 := h i hi
        exact hgx.cell h1 (by rw [add_block]; intro e; exact hg y rfl (by rintro rfl; simp at hi) (by injection e))
    exact (number_any g q a c xs wx hrx hq hxx hb hc (by omega)).mono fun e w' h => ⟨h.1, h.2.1, grown_trans hgx h.2.2⟩
  have hok : ∀ q : Nat, (uintOf xs q).2.2 = 0 → 0 ≤ (uintOf xs q).1 ∧ (uintOf xs q).1 < 18446744073709551616 ∧ (q : Int) < (uintOf xs q).2.1 ∧ (uintOf xs q).2.1 ≤ xs.length := fun q h => by
    have := ug_ok xs q hb 10 0 0 (by omega) (by omega) (by simp) h; simpa [uintOf] using this
  have hmax : max (most - size) 0 = 0 := by omega
  have hfin : tokOf xs p size most = tokOf xs p size most := rfl
  conv at hfin => rhs; unfold tokOf
  rw [hmax] at hfin
  change _ = _ at hfin
  have hok1 := hok p
  generalize tokOf xs p size most = T at *
  generalize uintOf xs p = u at *
  obtain ⟨x, nx, er⟩ := u
  simp only at hfin hok1 N1
  clear hx hg hmax
  have NN1 := Lib.hid N1
  clear N1 hr
  by_cases he : er = 0
  · subst he
    simp only [ne_eq, not_true_eq_false, if_false, if_true] at hfin NN1
    obtain ⟨hx0, hx1, hn0, hn1⟩ := hok1 rfl
    obtain ⟨nx, rfl⟩ := Int.eq_ofNat_of_zero_le (show 0 ≤ nx by omega)
    rw [Int.toNat_natCast] at hfin
    by_cases h2 : x / 2 = 0
    · rw [if_pos h2] at hfin
      subst hfin
      have t2 : (x / 2 == 0) = true := beq_iff_eq.2 h2
      clear h2 hok1 hok N2
      go_enter Try.func17, Try.ntmps17
      go_wp2_with fail
      refine NN1.out.mono ?_
      rintro e w1 ⟨rfl, hr1, hg1⟩
      go_wp2
      go_ret3
      exact ⟨rfl, hr1, hg1⟩
    rw [if_neg h2] at hfin
    have t2 : (x / 2 == 0) = false := beq_eq_false_iff_ne.2 h2
    by_cases h3 : x % 2 = 0
    · rw [if_pos h3] at hfin
      have t3 : (x % 2 == 0) = true := beq_iff_eq.2 h3
      by_cases h4 : 0 < x / 2
      · rw [if_pos h4] at hfin
        subst hfin
        have t4 : decide (x / 2 > 0) = true := decide_eq_true h4
        clear h2 h3 h4 hok1 hok N2
        go_enter Try.func17, Try.ntmps17
        go_wp2_with fail
        refine NN1.out.mono ?_
        rintro e w1 ⟨rfl, hr1, hg1⟩
        go_wp2
        go_ret3
        exact ⟨rfl, hr1, hg1⟩
      rw [if_neg h4] at hfin
      have t4 : decide (x / 2 > 0) = false := decide_eq_false h4
      have hw : IntKind.i64.wrap ((xs.length : Int) - (nx : Int)) = (xs.length : Int) - nx := IntWalk.i64_in _ (by omega)
      have hw2 : IntKind.u64.wrap ((xs.length : Int) - (nx : Int)) = (xs.length : Int) - nx := IntWalk.u64_in _ (by omega)
      by_cases h5 : (xs.length : Int) - nx < x / 2
      · rw [if_pos h5] at hfin
        subst hfin
        have t5 : decide (x / 2 > (xs.length : Int) - nx) = true := decide_eq_true h5
        clear h2 h3 h4 h5 hok1 hok N2
        go_enter Try.func17, Try.ntmps17
        go_wp2_with fail
        refine NN1.out.mono ?_
        rintro e w1 ⟨rfl, hr1, hg1⟩
        obtain ⟨f0, f1, z1⟩ := hr1
        have hr1 : Hid (Rdr w1 g a xs.length c nx) := ⟨f0, f1, z1⟩
        go_wp2
        go_quiet (fail)
        go_wp2
        go_ret3
        exact ⟨rfl, hr1.out.drewN _, grown_drewN hg1 _⟩
      · rw [if_neg h5] at hfin
        subst hfin
        have t5 : decide (x / 2 > (xs.length : Int) - nx) = false := decide_eq_false h5
        have b6 : x / 2 ≤ 1000000 := by omega
        clear h2 h3 h4 h5 hok1 hok N2
        go_enter Try.func17, Try.ntmps17
        go_wp2_with fail
        refine NN1.out.mono ?_
        rintro e w1 ⟨rfl, hr1, hg1⟩
        obtain ⟨f0, f1, z1⟩ := hr1
        have hr1 : Hid (Rdr w1 g a xs.length c nx) := ⟨f0, f1, z1⟩
        go_wp2
        go_quiet (fail)
        go_wp2
        go_ret3
        exact ⟨rfl, hr1.out.drewN _, grown_drewN hg1 _⟩
    rw [if_neg h3] at hfin
    have t3 : (x % 2 == 0) = false := beq_eq_false_iff_ne.2 h3
    have N2' := fun wx => N2 nx wx (by omega)
    have hok2 := hok nx
    generalize uintOf xs nx = v at *
    obtain ⟨d, nx2, er2⟩ := v
    simp only at hfin hok2 N2'
    have NN2 := Lib.hid N2'
    clear N2' N2 hok hok1
    by_cases he2 : er2 = 0
    · subst he2
      simp only [ne_eq, not_true_eq_false, if_false, if_true] at hfin NN2
      obtain ⟨hd0, hd1, hn2, hn3⟩ := hok2 rfl
      clear hok2
      by_cases h6 : d = 0
      · rw [if_pos (.inl h6)] at hfin
        subst hfin
        have t6 : (d == 0) = true := beq_iff_eq.2 h6
        clear h2 h3 h6
        go_enter Try.func17, Try.ntmps17
        go_wp2_with fail
        refine NN1.out.mono ?_
        rintro e w1 ⟨rfl, hr1, hg1⟩
        obtain ⟨f0, f1, z1⟩ := hr1
        have hr1 : Hid (Rdr w1 g a xs.length c nx) := ⟨f0, f1, z1⟩
        go_wp2
        go_quiet (fail)
        go_wp2_with fail
        refine (NN2.out _ (hr1.out.drewN _) (grown_drewN hg1 _)).mono ?_
        rintro e w2 ⟨rfl, hr2, hg2⟩
        go_wp2
        go_ret3
        exact ⟨rfl, hr2, hg2⟩
      have t6 : (d == 0) = false := beq_eq_false_iff_ne.2 h6
      by_cases h7 : size < d
      · rw [if_pos (.inr h7)] at hfin
        subst hfin
        have t7 : decide (d > size) = true := decide_eq_true h7
        clear h2 h3 h6 h7
        go_enter Try.func17, Try.ntmps17
        go_wp2_with fail
        refine NN1.out.mono ?_
        rintro e w1 ⟨rfl, hr1, hg1⟩
        obtain ⟨f0, f1, z1⟩ := hr1
        have hr1 : Hid (Rdr w1 g a xs.length c nx) := ⟨f0, f1, z1⟩
        go_wp2
        go_quiet (fail)
        go_wp2_with fail
        refine (NN2.out _ (hr1.out.drewN _) (grown_drewN hg1 _)).mono ?_
        rintro e w2 ⟨rfl, hr2, hg2⟩
        go_wp2
        go_ret3
        exact ⟨rfl, hr2, hg2⟩
      rw [if_neg (by omega)] at hfin
      have t7 : decide (d > size) = false := decide_eq_false h7
      by_cases h4 : 0 < x / 2
      · rw [if_pos h4] at hfin
        subst hfin
        have t4 : decide (x / 2 > 0) = true := decide_eq_true h4
        clear h2 h3 h4 h6 h7
        go_enter Try.func17, Try.ntmps17
        go_wp2_with fail
        refine NN1.out.mono ?_
        rintro e w1 ⟨rfl, hr1, hg1⟩
        obtain ⟨f0, f1, z1⟩ := hr1
        have hr1 : Hid (Rdr w1 g a xs.length c nx) := ⟨f0, f1, z1⟩
        go_wp2
        go_quiet (fail)
        go_wp2_with fail
        refine (NN2.out _ (hr1.out.drewN _) (grown_drewN hg1 _)).mono ?_
        rintro e w2 ⟨rfl, hr2, hg2⟩
        go_wp2
        go_ret3
        exact ⟨rfl, hr2, hg2⟩
      · rw [if_neg h4] at hfin
        subst hfin
        have t4 : decide (x / 2 > 0) = false := decide_eq_false h4
        have b6 : x / 2 ≤ 1000000 := by omega
        have b7 : d ≤ 1000000 := by omega
        clear h2 h3 h4 h6 h7
        go_enter Try.func17, Try.ntmps17
        go_wp2_with fail
        refine NN1.out.mono ?_
        rintro e w1 ⟨rfl, hr1, hg1⟩
        obtain ⟨f0, f1, z1⟩ := hr1
        have hr1 : Hid (Rdr w1 g a xs.length c nx) := ⟨f0, f1, z1⟩
        go_wp2
        go_quiet (fail)
        go_wp2_with fail
        refine (NN2.out _ (hr1.out.drewN _) (grown_drewN hg1 _)).mono ?_
        rintro e w2 ⟨rfl, hr2, hg2⟩
        go_wp2
        go_ret3
        exact ⟨rfl, hr2, hg2⟩
    · rw [if_pos he2] at hfin
      subst hfin
      have q1 : (er2 != 0) = true := by rw [bne_iff_ne]; exact he2
      simp only [he2, if_false] at NN2
      clear hok2 h2 h3
      go_enter Try.func17, Try.ntmps17
      go_wp2_with fail
      refine NN1.out.mono ?_
      rintro e w1 ⟨rfl, hr1, hg1⟩
      obtain ⟨f0, f1, z1⟩ := hr1
      have hr1 : Hid (Rdr w1 g a xs.length c nx) := ⟨f0, f1, z1⟩
      go_wp2
      go_quiet (fail)
      go_wp2_with fail
      refine (NN2.out _ (hr1.out.drewN _) (grown_drewN hg1 _)).mono ?_
      rintro e w2 ⟨rfl, hr2, hg2⟩
      go_wp2
      go_ret3
      exact ⟨rfl, hr2, hg2⟩
  · rw [if_pos he] at hfin
    subst hfin
    have q0 : (er != 0) = true := by rw [bne_iff_ne]; exact he
    simp only [he, if_false] at NN1
    clear hok1 hok N2
    go_enter Try.func17, Try.ntmps17
    go_wp2_with fail
    refine NN1.out.mono ?_
    rintro e w1 ⟨rfl, hr1, hg1⟩
    go_wp2
    go_ret3
    exact ⟨rfl, hr1, hg1⟩

theorem token_any (g p : Nat) (size most : Int) (a : Option Addr) (c : Nat) (xs : List Int) (w : World) (hr : Rdr w g a xs.length c p) (hp : p ≤ xs.length) (hx : Ints .u8 w a xs) (hb : AllB xs) (hc : xs.length ≤ c) (hl : xs.length ≤ 1000000)
    (hs0 : 0 ≤ size) (hs1 : size ≤ 1000000) (hm1 : most ≤ 1000000) (hm2 : -9223372036854775808 ≤ most - size) (hg : ∀ q, a = some q → xs ≠ [] → q.block ≠ g) :
    Calls Try.prog 17 #[.pointer (some ⟨g, 0, none⟩), .int .i64 size, .int .i64 most] w fun e w' => e = .returned (.tuple #[.int .i64 (tokOf xs p size most).n, .int .i64 (tokOf xs p size most).d, .int .i64 (tokOf xs p size most).e]) ∧ Rdr w' g a xs.length c (tokOf xs p size most).next ∧ w.grownBy w' (some g) := by
  by_cases h : 0 ≤ most - size
  · exact token_pos g p size most a c xs w hr hp hx hb hc hl hs0 hs1 hm1 hm2 hg h
  · exact token_neg g p size most a c xs w hr hp hx hb hc hl hs0 hs1 hm1 hm2 hg (by omega)
end Go.Proofs.Ytbihkkaikcfilaa
