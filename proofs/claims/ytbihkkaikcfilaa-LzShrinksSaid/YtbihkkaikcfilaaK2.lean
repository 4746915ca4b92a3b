/- common and repeated. -/
import Derived.Test.YtbihkkaikcfilaaK1
namespace Go.Proofs.Ytbihkkaikcfilaa
open Go.RowKit
set_option linter.unusedVariables false
set_option linter.unusedSimpArgs false

/-- n bytes from two places on are equal, and no more. -/
structure Com (xs : List Int) (f a n : Nat) : Prop where
  le : a + n ≤ xs.length
  eq : ∀ i, i < n → xs.getD (f + i) 0 = xs.getD (a + i) 0
  ends : a + n < xs.length → xs.getD (f + n) 0 ≠ xs.getD (a + n) 0

set_option maxRecDepth 100000 in
set_option maxHeartbeats 8000000 in
theorem common_any (a : Option Addr) (c : Nat) (xs : List Int) (f p : Nat) (w : World) (hx : Ints .u8 w a xs) (hc : xs.length ≤ c) (hl : xs.length ≤ 1000000) (hf : f < p) (hp : p ≤ xs.length) :
    Calls Try.prog 23 #[.slice a xs.length c, .int .i64 f, .int .i64 p] w fun e w' => ∃ n : Nat, e = .returned (.int .i64 n) ∧ Com xs f p n ∧ Below w.heap.size w w' := by
  have HX : Hid (∀ wx, Below w.heap.size w wx → Ints .u8 wx a xs) := Lib.hid fun wx h => hx.below h
  clear hx
  go_enter Try.func23, Try.ntmps23
  go_wp2
  go_loopw [7] (fun i wr => ∃ n : Nat, i = .int .i64 n ∧ p + n ≤ xs.length ∧ Hid (∀ i, i < n → xs.getD (f + i) 0 = xs.getD (p + i) 0) ∧ Below w.heap.size w wr) (fun i _ => xs.length - (intOf i).toNat)
  case atStart => exact ⟨0, rfl, by omega, Lib.hid fun i h => absurd h (by omega), Below.refl _ _⟩
  case round =>
    obtain ⟨n, rfl, hn, HQ, hlow⟩ := hrel
    have hi := HX.out _ hlow
    have s1 : IntKind.i64.wrap ((p : Int) + (n : Int)) = ((p + n : Nat) : Int) := by rw [show (p : Int) + (n : Int) = ((p + n : Nat) : Int) from by omega]; exact IntWalk.i64_in _ (by omega)
    have s2 : IntKind.i64.wrap ((f : Int) + (n : Int)) = ((f + n : Nat) : Int) := by rw [show (f : Int) + (n : Int) = ((f + n : Nat) : Int) from by omega]; exact IntWalk.i64_in _ (by omega)
    have hnb : n ≤ 1000000 := by omega
    by_cases h : p + n < xs.length
    · have d1 : decide (((p + n : Nat) : Int) < (xs.length : Int)) = true := decide_eq_true (by omega)
      obtain ⟨ad, rfl, c1⟩ := hi.at (i := f + n) (by omega)
      obtain ⟨ad', e', c2⟩ := hi.at (i := p + n) h
      cases e'
      have b1 : (0 : Int) ≤ ((f + n : Nat) : Int) := by omega
      have b2 : ((f + n : Nat) : Int) < (xs.length : Int) := by omega
      have b3 : (0 : Int) ≤ ((p + n : Nat) : Int) := by omega
      have b4 : ((p + n : Nat) : Int) < (xs.length : Int) := by omega
      have HH := Lib.hid (And.intro hn h)
      by_cases he : xs.getD (f + n) 0 = xs.getD (p + n) 0
      · have HE := Lib.hid he
        rw [he] at c1
        generalize xs.getD (p + n) 0 = y at c1 c2
        have q1 : (y == y) = true := beq_self_eq_true _
        generalize hfn : f + n = fn at *
        generalize hpn : p + n = pn at *
        have HFN := Lib.hid (And.intro hfn hpn)
        clear he hi hfn hpn hn h
        go_wp2
        go_quiet (fail)
        go_wp2
        go_roundw
        case rel =>
          obtain ⟨k1, k2⟩ := HFN.out
          exact ⟨n + 1, by go_num, by have := HH.out.2; omega, Lib.hid fun i hi => by
            by_cases h2 : i < n
            · exact HQ.out i h2
            · obtain rfl : i = n := by omega
              rw [k1, k2]; exact HE.out, below_drewN hlow _⟩
        case measure => have := HH.out.2; have := HFN.out.2; simp [intOf]; omega
      · have HE := Lib.hid he
        have q1 : (xs.getD (f + n) 0 == xs.getD (p + n) 0) = false := beq_eq_false_iff_ne.2 he
        generalize xs.getD (p + n) 0 = y at c2 q1
        generalize xs.getD (f + n) 0 = z at c1 q1
        generalize hfn : f + n = fn at *
        generalize hpn : p + n = pn at *
        have HFN := Lib.hid (And.intro hfn hpn)
        clear he hi hfn hpn hn h
        go_wp2
        go_quiet (fail)
        go_wp2
        go_ret
        obtain ⟨k1, k2⟩ := HFN.out
        exact ⟨n, rfl, ⟨by have := HH.out.2; omega, HQ.out, fun _ => by rw [k1, k2]; exact HE.out⟩, below_drewN hlow _⟩
    · have d1 : decide (((p + n : Nat) : Int) < (xs.length : Int)) = false := decide_eq_false (by omega)
      have d1' : decide (p + n < xs.length) = false := decide_eq_false h
      generalize hpn : p + n = pn at *
      generalize hfn : f + n = fn at *
      have HFN := Lib.hid (And.intro hn (And.intro h hpn))
      clear hi hpn hfn h hn
      go_wp2
      go_quiet (fail)
      go_wp2
      go_ret
      obtain ⟨k1, k2, k3⟩ := HFN.out
      exact ⟨n, rfl, ⟨by omega, HQ.out, fun h => absurd h (by omega)⟩, below_drewN hlow _⟩
theorem Com.uniq {xs : List Int} {f a n m : Nat} (h : Com xs f a n) (k : Com xs f a m) : n = m := by
  rcases Nat.lt_trichotomy n m with h1 | h1 | h1
  · exact absurd (k.eq n h1) (h.ends (by have := k.le; omega))
  · exact h1
  · exact absurd (h.eq m h1) (k.ends (by have := h.le; omega))
/-- A copy (n bytes, so far back) that may be made at a place, or none. -/
def Cop (xs : List Int) (p n d : Nat) : Prop := n = 0 ∨ (1 ≤ d ∧ d ≤ p ∧ p + n ≤ xs.length ∧ ∀ i, i < n → xs.getD (p - d + i) 0 = xs.getD (p + i) 0)
structure RInv (w : World) (xs : List Int) (p d n dd : Nat) (wr : World) : Prop where
  d1 : 1 ≤ d
  d2 : d ≤ 33
  d3 : d ≤ p + 1
  n1 : n ≤ xs.length
  d4 : dd ≤ 33
  cop : Cop xs p n dd
  most : ∀ u k, 1 ≤ u → u < d → u ≤ p → Com xs (p - u) p k → k ≤ n
  low : Below w.heap.size w wr
set_option maxRecDepth 100000 in
set_option maxHeartbeats 8000000 in
theorem repeated_any (a : Option Addr) (c : Nat) (xs : List Int) (p : Nat) (w : World) (hx : Ints .u8 w a xs) (hc : xs.length ≤ c) (hl : xs.length ≤ 1000000) (hp : p ≤ xs.length) :
    Calls Try.prog 22 #[.slice a xs.length c, .int .i64 p] w fun e w' => ∃ n d : Nat, e = .returned (.tuple #[.int .i64 n, .int .i64 d]) ∧ n ≤ xs.length ∧ d ≤ 33 ∧ Cop xs p n d ∧ (∀ u k, 1 ≤ u → u ≤ 32 → u ≤ p → Com xs (p - u) p k → k ≤ n) ∧ Below w.heap.size w w' := by
  have HS : Hid (RInv w xs p 1 0 0 w) := ⟨by omega, by omega, by omega, by omega, by omega, .inl rfl, fun u k h1 h2 => absurd h1 (by omega), Below.refl _ _⟩
  have CC : Hid (∀ wx d, Below w.heap.size w wx → 1 ≤ d → d ≤ p → Calls Try.prog 23 #[.slice a xs.length c, .int .i64 ((p : Int) - (d : Int)), .int .i64 p] wx fun e w' => ∃ n : Nat, e = .returned (.int .i64 n) ∧ Com xs (p - d) p n ∧ Below w.heap.size w w') := Lib.hid fun wx d hb h1 h2 => by
    have := common_any a c xs (p - d) p wx (hx.below hb) hc hl (by omega) hp
    rw [show ((p - d : Nat) : Int) = (p : Int) - (d : Int) from by omega] at this
    exact this.mono fun e w' ⟨n, h1, h2, h3⟩ => ⟨n, h1, h2, Below.next hb h3⟩
  clear hx
  go_enter Try.func22, Try.ntmps22
  go_wp2
  go_loopw [4, 5, 6] (fun nn ddd i wr => ∃ d n dd : Nat, nn = .int .i64 n ∧ ddd = .int .i64 dd ∧ i = .int .i64 d ∧ RInv w xs p d n dd wr) (fun _ _ i _ => 33 - (intOf i).toNat)
  case atStart => exact ⟨1, 0, 0, rfl, rfl, rfl, HS.out⟩
  case round =>
    obtain ⟨d, n, dd, rfl, rfl, rfl, hd1, hd2, hd3, hn1, hd4, hcop, hmost, hlow⟩ := hrel
    clear HS
    have HC := Lib.hid hcop
    have HM := Lib.hid hmost
    clear hcop hmost
    by_cases h1 : d ≤ 32
    · have q1 : decide ((d : Int) ≤ 32) = true := decide_eq_true (by omega)
      by_cases h2 : d ≤ p
      · have q2 : decide ((d : Int) ≤ (p : Int)) = true := decide_eq_true (by omega)
        have q2' : decide (d ≤ p) = true := decide_eq_true h2
        have C := Lib.hid (CC.out wr d hlow hd1 h2)
        go_wp2_with fail
        refine C.out.mono ?_
        rintro e w1 ⟨k, rfl, hk, hb1⟩
        have hkl := hk.le
        by_cases h3 : n < k
        · have q3 : decide ((k : Int) > (n : Int)) = true := decide_eq_true (by omega)
          have q3' : decide (n < k) = true := decide_eq_true h3
          go_wp2
          go_roundw
          case rel => exact ⟨d + 1, k, d, rfl, rfl, by go_num, by omega, by omega, by omega, by omega, by omega, .inr ⟨by omega, by omega, by omega, hk.eq⟩, fun u k' e1 e2 e3 e4 => by
              by_cases hu : u = d
              · subst hu; have := hk.uniq e4; omega
              · have := HM.out u k' e1 (by omega) e3 e4; omega, hb1⟩
          case measure => simp [intOf]; omega
        · have q3 : decide ((k : Int) > (n : Int)) = false := decide_eq_false (by omega)
          have q3' : decide (n < k) = false := decide_eq_false h3
          go_wp2
          go_roundw
          case rel => exact ⟨d + 1, n, dd, rfl, rfl, by go_num, by omega, by omega, by omega, by omega, by omega, HC.out, fun u k' e1 e2 e3 e4 => by
              by_cases hu : u = d
              · subst hu; have := hk.uniq e4; omega
              · have := HM.out u k' e1 (by omega) e3 e4; omega, hb1⟩
          case measure => simp [intOf]; omega
      · have q2 : decide ((d : Int) ≤ (p : Int)) = false := decide_eq_false (by omega)
        have q2' : decide (d ≤ p) = false := decide_eq_false h2
        go_wp2
        go_ret2
        exact ⟨n, dd, rfl, hn1, hd4, HC.out, fun u k e1 e2 e3 e4 => HM.out u k e1 (by omega) e3 e4, hlow⟩
    · have q1 : decide ((d : Int) ≤ 32) = false := decide_eq_false (by omega)
      have q1' : decide (d ≤ 32) = false := decide_eq_false (by omega)
      go_wp2
      go_ret2
      exact ⟨n, dd, rfl, hn1, hd4, HC.out, fun u k e1 e2 e3 e4 => HM.out u k e1 (by omega) e3 e4, hlow⟩
end Go.Proofs.Ytbihkkaikcfilaa
