/- Costs and credits: what is permitted; examine, and the reference's check. -/
import Derived.Test.YtdfnpknekjgkiaaD10
namespace Go.Proofs.Ytdfnpknekjgkiaa
open Go.RowKit
set_option linter.unusedVariables false
set_option linter.unusedSimpArgs false

/-- Is there one out of range? -/
def badIn (lim : Int) (xs : List Int) : Bool := xs.any (fun c => decide (c < 0 ∨ lim < c))
theorem badIn_false {lim : Int} {xs : List Int} (h : badIn lim xs = false) : ∀ x ∈ xs, 0 ≤ x ∧ x ≤ lim := fun x hx => by
  have := List.any_eq_false.1 h x hx
  simp only [decide_eq_true_eq] at this
  omega
theorem badIn_at {lim : Int} {xs : List Int} {k : Nat} (hk : k < xs.length) (h : xs[k] < 0 ∨ lim < xs[k]) : badIn lim xs = true := List.any_eq_true.2 ⟨_, List.getElem_mem hk, decide_eq_true h⟩
theorem badIn_none {lim : Int} {xs : List Int} (h : ∀ j (hj : j < xs.length), ¬ (xs[j] < 0 ∨ lim < xs[j])) : badIn lim xs = false := by
  refine List.any_eq_false.2 fun x hx => ?_
  obtain ⟨j, hj, rfl⟩ := List.getElem_of_mem hx
  simpa using h j hj
set_option maxRecDepth 100000 in
set_option maxHeartbeats 4000000 in
theorem out40_any (x : Int) (w : World) : Calls Try.prog 40 #[.int .i64 x] w fun e w' => e = .returned (.bool (decide (x < 0 ∨ 1000000 < x))) ∧ w' = w := by
  by_cases h1 : x < 0
  · rw [decide_eq_true (Or.inl h1)]
    have q : decide (x < 0) = true := decide_eq_true h1
    clear h1
    go_enter Try.func40, Try.ntmps40
    go_wp2
    go_ret
    exact ⟨rfl, rfl⟩
  · have q : decide (x < 0) = false := decide_eq_false h1
    by_cases h2 : x > 1000000
    · rw [decide_eq_true (Or.inr h2)]
      have q2 : decide (x > 1000000) = true := decide_eq_true h2
      clear h1 h2
      go_enter Try.func40, Try.ntmps40
      go_wp2
      go_ret
      exact ⟨rfl, rfl⟩
    · rw [decide_eq_false (by omega)]
      have q2 : decide (x > 1000000) = false := decide_eq_false h2
      clear h1 h2
      go_enter Try.func40, Try.ntmps40
      go_wp2
      go_ret
      exact ⟨rfl, rfl⟩
set_option maxRecDepth 100000 in
set_option maxHeartbeats 4000000 in
theorem index40_any (xs : List Int) (a : Option Addr) (c : Nat) (w : World) (hx : Ints .i64 w a xs) (hc : xs.length ≤ c) (hl : xs.length ≤ 1000000) :
    Calls Try.prog 39 #[.slice a xs.length c, .func (.func 40) #[] #[]] w fun e w' => ∃ i : Int, e = .returned (.int .i64 i) ∧ decide (i ≥ 0) = badIn 1000000 xs ∧ w' = w := by
  go_enter Try.func39, Try.ntmps39
  go_wp2
  go_loopw [8] (fun i wr => ∃ k : Nat, i = .int .i64 k ∧ k ≤ xs.length ∧ Hid (∀ j (h : j < k) (h2 : j < xs.length), ¬ (xs[j] < 0 ∨ 1000000 < xs[j])) ∧ wr = w) (fun i _ => xs.length - (intOf i).toNat)
  case atStart => exact ⟨0, rfl, by omega, Lib.hid fun j h => absurd h (by omega), rfl⟩
  case round =>
    obtain ⟨k, rfl, hk, HQ, rfl⟩ := hrel
    by_cases h : k < xs.length
    · obtain ⟨x, rfl, hcell⟩ := hx.at h
      rw [show xs.getD k 0 = xs[k] by simp [h]] at hcell
      have P := out40_any xs[k] wr
      by_cases hb : xs[k] < 0 ∨ 1000000 < xs[k]
      · rw [decide_eq_true hb] at P
        have HV := Lib.hid (badIn_at h hb)
        generalize xs[k] = v at *
        have HP := Lib.hid P
        clear P hb
        go_wp2_with fail
        refine HP.out.mono ?_
        rintro e w1 ⟨rfl, rfl⟩
        go_wp2
        go_ret
        exact ⟨k, rfl, by rw [HV.out]; simp, rfl⟩
      · rw [decide_eq_false hb] at P
        have HE := Lib.hid hb
        obtain ⟨v, hv⟩ : ∃ v, xs[k] = v := ⟨_, rfl⟩
        rw [hv] at P hcell
        have HP := Lib.hid P
        clear P hb hv
        go_wp2_with fail
        refine HP.out.mono ?_
        rintro e w1 ⟨rfl, rfl⟩
        go_wp2
        go_roundw
        case rel => exact ⟨k + 1, by go_num, by omega, Lib.hid fun j h1 h2 => by
            by_cases hj : j = k
            · subst hj; exact HE.out
            · exact HQ.out j (by omega) h2, trivial⟩
        case measure => simp [intOf]; omega
    · have HV := Lib.hid (badIn_none (lim := 1000000) fun j hj => HQ.out j (by omega) hj)
      go_wp2
      go_ret
      exact ⟨-1, rfl, by rw [HV.out]; decide, rfl⟩
set_option maxRecDepth 100000 in
set_option maxHeartbeats 4000000 in
theorem contains40_any (xs : List Int) (a : Option Addr) (c : Nat) (w : World) (hx : Ints .i64 w a xs) (hc : xs.length ≤ c) (hl : xs.length ≤ 1000000) :
    Calls Try.prog 30 #[.slice a xs.length c, .func (.func 40) #[] #[]] w fun e w' => e = .returned (.bool (badIn 1000000 xs)) ∧ w' = w := by
  have X := Lib.hid (index40_any xs a c w hx hc hl)
  clear hx
  go_enter Try.func30, Try.ntmps30
  go_wp2_with fail
  refine X.out.mono ?_
  rintro e w1 ⟨i, rfl, hi, rfl⟩
  have HI := Lib.hid hi
  obtain ⟨b, hb⟩ : ∃ b, decide (i ≥ 0) = b := ⟨_, rfl⟩
  rw [hb] at HI
  clear hi
  go_wp2
  go_ret
  exact ⟨by rw [← HI.out]; rfl, rfl⟩
set_option maxRecDepth 100000 in
set_option maxHeartbeats 4000000 in
theorem out41_any (x : Int) (w : World) : Calls Try.prog 41 #[.int .i64 x] w fun e w' => e = .returned (.bool (decide (x < 0 ∨ 1125899906842624 < x))) ∧ w' = w := by
  by_cases h1 : x < 0
  · rw [decide_eq_true (Or.inl h1)]
    have q : decide (x < 0) = true := decide_eq_true h1
    clear h1
    go_enter Try.func41, Try.ntmps41
    go_wp2
    go_ret
    exact ⟨rfl, rfl⟩
  · have q : decide (x < 0) = false := decide_eq_false h1
    by_cases h2 : x > 1125899906842624
    · rw [decide_eq_true (Or.inr h2)]
      have q2 : decide (x > 1125899906842624) = true := decide_eq_true h2
      clear h1 h2
      go_enter Try.func41, Try.ntmps41
      go_wp2
      go_ret
      exact ⟨rfl, rfl⟩
    · rw [decide_eq_false (by omega)]
      have q2 : decide (x > 1125899906842624) = false := decide_eq_false h2
      clear h1 h2
      go_enter Try.func41, Try.ntmps41
      go_wp2
      go_ret
      exact ⟨rfl, rfl⟩
set_option maxRecDepth 100000 in
set_option maxHeartbeats 4000000 in
theorem index41_any (xs : List Int) (a : Option Addr) (c : Nat) (w : World) (hx : Ints .i64 w a xs) (hc : xs.length ≤ c) (hl : xs.length ≤ 1000000) :
    Calls Try.prog 39 #[.slice a xs.length c, .func (.func 41) #[] #[]] w fun e w' => ∃ i : Int, e = .returned (.int .i64 i) ∧ decide (i ≥ 0) = badIn 1125899906842624 xs ∧ w' = w := by
  go_enter Try.func39, Try.ntmps39
  go_wp2
  go_loopw [8] (fun i wr => ∃ k : Nat, i = .int .i64 k ∧ k ≤ xs.length ∧ Hid (∀ j (h : j < k) (h2 : j < xs.length), ¬ (xs[j] < 0 ∨ 1125899906842624 < xs[j])) ∧ wr = w) (fun i _ => xs.length - (intOf i).toNat)
  case atStart => exact ⟨0, rfl, by omega, Lib.hid fun j h => absurd h (by omega), rfl⟩
  case round =>
    obtain ⟨k, rfl, hk, HQ, rfl⟩ := hrel
    by_cases h : k < xs.length
    · obtain ⟨x, rfl, hcell⟩ := hx.at h
      rw [show xs.getD k 0 = xs[k] by simp [h]] at hcell
      have P := out41_any xs[k] wr
      by_cases hb : xs[k] < 0 ∨ 1125899906842624 < xs[k]
      · rw [decide_eq_true hb] at P
        have HV := Lib.hid (badIn_at h hb)
        generalize xs[k] = v at *
        have HP := Lib.hid P
        clear P hb
        go_wp2_with fail
        refine HP.out.mono ?_
        rintro e w1 ⟨rfl, rfl⟩
        go_wp2
        go_ret
        exact ⟨k, rfl, by rw [HV.out]; simp, rfl⟩
      · rw [decide_eq_false hb] at P
        have HE := Lib.hid hb
        obtain ⟨v, hv⟩ : ∃ v, xs[k] = v := ⟨_, rfl⟩
        rw [hv] at P hcell
        have HP := Lib.hid P
        clear P hb hv
        go_wp2_with fail
        refine HP.out.mono ?_
        rintro e w1 ⟨rfl, rfl⟩
        go_wp2
        go_roundw
        case rel => exact ⟨k + 1, by go_num, by omega, Lib.hid fun j h1 h2 => by
            by_cases hj : j = k
            · subst hj; exact HE.out
            · exact HQ.out j (by omega) h2, trivial⟩
        case measure => simp [intOf]; omega
    · have HV := Lib.hid (badIn_none (lim := 1125899906842624) fun j hj => HQ.out j (by omega) hj)
      go_wp2
      go_ret
      exact ⟨-1, rfl, by rw [HV.out]; decide, rfl⟩
set_option maxRecDepth 100000 in
set_option maxHeartbeats 4000000 in
theorem contains41_any (xs : List Int) (a : Option Addr) (c : Nat) (w : World) (hx : Ints .i64 w a xs) (hc : xs.length ≤ c) (hl : xs.length ≤ 1000000) :
    Calls Try.prog 30 #[.slice a xs.length c, .func (.func 41) #[] #[]] w fun e w' => e = .returned (.bool (badIn 1125899906842624 xs)) ∧ w' = w := by
  have X := Lib.hid (index41_any xs a c w hx hc hl)
  clear hx
  go_enter Try.func30, Try.ntmps30
  go_wp2_with fail
  refine X.out.mono ?_
  rintro e w1 ⟨i, rfl, hi, rfl⟩
  have HI := Lib.hid hi
  obtain ⟨b, hb⟩ : ∃ b, decide (i ≥ 0) = b := ⟨_, rfl⟩
  rw [hb] at HI
  clear hi
  go_wp2
  go_ret
  exact ⟨by rw [← HI.out]; rfl, rfl⟩
set_option maxRecDepth 100000 in
set_option maxHeartbeats 4000000 in
theorem permitted_any (Q : Int) (xs : List Int) (a : Option Addr) (c : Nat) (w : World) (hx : Ints .i64 w a xs) (hc : xs.length ≤ c) (hl : xs.length ≤ 1000000) :
    Calls Try.prog 32 #[.int .i64 Q, .slice a xs.length c] w fun e w' => e = .returned (.bool (decide ((1 ≤ Q ∧ Q ≤ 1000000) ∧ badIn 1000000 xs = false))) ∧ w' = w := by
  have X := Lib.hid (contains40_any xs a c w hx hc hl)
  clear hx
  by_cases h1 : Q ≥ 1
  case neg =>
    rw [decide_eq_false (fun h => h1 h.1.1)]
    have q1 : decide (Q ≥ 1) = false := decide_eq_false h1
    clear h1
    go_enter Try.func32, Try.ntmps32
    go_wp2
    go_ret
    exact ⟨rfl, rfl⟩
  have q1 : decide (Q ≥ 1) = true := decide_eq_true h1
  by_cases h2 : Q ≤ 1000000
  case neg =>
    rw [decide_eq_false (fun h => h2 h.1.2)]
    have q2 : decide (Q ≤ 1000000) = false := decide_eq_false h2
    clear h1 h2
    go_enter Try.func32, Try.ntmps32
    go_wp2
    go_ret
    exact ⟨rfl, rfl⟩
  have q2 : decide (Q ≤ 1000000) = true := decide_eq_true h2
  have HV : Hid (decide ((1 ≤ Q ∧ Q ≤ 1000000) ∧ badIn 1000000 xs = false) = !(badIn 1000000 xs)) := by
    refine Lib.hid ?_
    cases hb : badIn 1000000 xs
    · rw [decide_eq_true ⟨⟨h1, h2⟩, rfl⟩]; rfl
    · rw [decide_eq_false (fun h => by cases h.2)]; rfl
  generalize badIn 1000000 xs = b at *
  clear h1 h2
  go_enter Try.func32, Try.ntmps32
  go_wp2_with fail
  refine X.out.mono ?_
  rintro e w1 ⟨rfl, rfl⟩
  go_wp2
  go_ret
  exact ⟨by rw [HV.out]; rfl, rfl⟩
/-- Is a state valid? -/
def stOk (t : Int) (xs : List Int) (n : Nat) : Prop := (0 ≤ t ∧ t ≤ n) ∧ xs.length = n + 1 ∧ badIn 1125899906842624 xs = false
instance (t : Int) (xs : List Int) (n : Nat) : Decidable (stOk t xs n) := by unfold stOk; infer_instance
set_option maxRecDepth 100000 in
set_option maxHeartbeats 4000000 in
theorem fits_any (t : Int) (xs : List Int) (n : Nat) (a : Option Addr) (c : Nat) (w : World) (hx : Ints .i64 w a xs) (hc : xs.length ≤ c) (hl : xs.length ≤ 1000000) (hn : n ≤ 1000000) :
    Calls Try.prog 33 #[.agg #[.int .i64 t, .slice a xs.length c], .int .i64 n] w fun e w' => e = .returned (.bool (decide (stOk t xs n))) ∧ Below w.heap.size w w' := by
  have hb := below_alloc (Below.refl w.heap.size w) (.cells #[.int .i64 t, .slice a xs.length c] 31)
  have X := Lib.hid (contains41_any xs a c _ (hx.below hb) hc hl)
  have HB := Lib.hid hb
  clear hx hb
  by_cases h1 : t ≥ 0
  case neg =>
    rw [decide_eq_false (fun h => h1 h.1.1)]
    have q1 : decide (t ≥ 0) = false := decide_eq_false h1
    clear h1
    go_enter Try.func33, Try.ntmps33
    go_wp2
    go_ret
    exact ⟨rfl, HB.out⟩
  have q1 : decide (t ≥ 0) = true := decide_eq_true h1
  by_cases h2 : t ≤ n
  case neg =>
    rw [decide_eq_false (fun h => h2 h.1.2)]
    have q2 : decide (t ≤ (n : Int)) = false := decide_eq_false h2
    clear h1 h2
    go_enter Try.func33, Try.ntmps33
    go_wp2
    go_ret
    exact ⟨rfl, HB.out⟩
  have q2 : decide (t ≤ (n : Int)) = true := decide_eq_true h2
  by_cases h3 : xs.length = n + 1
  case neg =>
    rw [decide_eq_false (fun h => h3 h.2.1)]
    have q3 : ((xs.length : Int) == (n : Int) + 1) = false := by rw [beq_eq_false_iff_ne]; omega
    clear h1 h2 h3
    go_enter Try.func33, Try.ntmps33
    go_wp2
    go_ret
    exact ⟨rfl, HB.out⟩
  have q3 : ((xs.length : Int) == (n : Int) + 1) = true := by rw [beq_iff_eq]; omega
  have HV : Hid (decide (stOk t xs n) = !(badIn 1125899906842624 xs)) := by
    refine Lib.hid ?_
    cases hb : badIn 1125899906842624 xs
    · rw [decide_eq_true ⟨⟨h1, h2⟩, h3, hb⟩]; rfl
    · rw [decide_eq_false (fun h => by have h3 := h.2.2; rw [hb] at h3; cases h3)]; rfl
  generalize badIn 1125899906842624 xs = b at *
  clear h1 h2 h3
  go_enter Try.func33, Try.ntmps33
  go_wp2_with fail
  refine X.out.mono ?_
  rintro e w1 ⟨rfl, rfl⟩
  go_wp2
  go_ret
  exact ⟨by rw [HV.out]; rfl, HB.out⟩
/-- The error of arguments. -/
def ckArg (n : Nat) (cs : List Int) (Q : Int) : Int := if n > 64 then 6 else if cs.length ≠ n then 8 else if (1 ≤ Q ∧ Q ≤ 1000000) ∧ badIn 1000000 cs = false then 0 else 7
set_option maxRecDepth 100000 in
set_option maxHeartbeats 4000000 in
theorem rcheck_any (v : Value) (n : Nat) (aq : Option Addr) (cq : Nat) (Q : Int) (xs : List Int) (a : Option Addr) (c : Nat) (w : World) (hx : Ints .i64 w a xs) (hc : xs.length ≤ c) (hl : xs.length ≤ 1000000) (hn : n ≤ 1000000) :
    Calls Try.prog 28 #[v, .slice aq n cq, .slice a xs.length c, .int .i64 Q] w fun e w' => e = .returned (.int .i64 (ckArg n xs Q)) ∧ w' = w := by
  by_cases h1 : n > 64
  · have HA := Lib.hid (show ckArg n xs Q = 6 by rw [ckArg, if_pos h1])
    have q1 : decide ((n : Int) > 64) = true := decide_eq_true (by omega)
    clear h1 hx
    go_enter Try.func28, Try.ntmps28
    go_wp2
    go_ret
    exact ⟨by rw [HA.out]; rfl, rfl⟩
  have q1 : decide ((n : Int) > 64) = false := decide_eq_false (by omega)
  by_cases h2 : xs.length ≠ n
  · have HA := Lib.hid (show ckArg n xs Q = 8 by rw [ckArg, if_neg h1, if_pos h2])
    have q2 : ((xs.length : Int) != (n : Int)) = true := by rw [bne_iff_ne]; omega
    clear h1 h2 hx
    go_enter Try.func28, Try.ntmps28
    go_wp2
    go_ret
    exact ⟨by rw [HA.out]; rfl, rfl⟩
  have q2 : ((xs.length : Int) != (n : Int)) = false := by rw [bne_eq_false_iff_eq]; omega
  have hck : ckArg n xs Q = if (1 ≤ Q ∧ Q ≤ 1000000) ∧ badIn 1000000 xs = false then 0 else 7 := by rw [ckArg, if_neg h1, if_neg h2]
  by_cases h3 : Q < 1
  · have HA := Lib.hid (show ckArg n xs Q = 7 by rw [hck, if_neg (by omega)])
    have q3 : decide (Q < 1) = true := decide_eq_true h3
    clear h1 h2 h3 hx hck
    go_enter Try.func28, Try.ntmps28
    go_wp2
    go_ret
    exact ⟨by rw [HA.out]; rfl, rfl⟩
  have q3 : decide (Q < 1) = false := decide_eq_false h3
  by_cases h4 : Q > 1000000
  · have HA := Lib.hid (show ckArg n xs Q = 7 by rw [hck, if_neg (by omega)])
    have q4 : decide (Q > 1000000) = true := decide_eq_true h4
    clear h1 h2 h3 h4 hx hck
    go_enter Try.func28, Try.ntmps28
    go_wp2
    go_ret
    exact ⟨by rw [HA.out]; rfl, rfl⟩
  have q4 : decide (Q > 1000000) = false := decide_eq_false h4
  have HK : Hid (ckArg n xs Q = if badIn 1000000 xs = false then 0 else 7) := by
    refine Lib.hid ?_
    rw [hck]
    by_cases hb : badIn 1000000 xs = false
    · rw [if_pos hb, if_pos ⟨by omega, hb⟩]
    · rw [if_neg hb, if_neg (fun h => hb h.2)]
  clear h1 h2 h3 h4 hck
  go_enter Try.func28, Try.ntmps28
  go_wp2
  go_loopw [9] (fun i wr => ∃ k : Nat, i = .int .i64 k ∧ k ≤ xs.length ∧ Hid (∀ j (h : j < k) (h2 : j < xs.length), ¬ (xs[j] < 0 ∨ 1000000 < xs[j])) ∧ wr = w) (fun i _ => xs.length - (intOf i).toNat)
  case atStart => exact ⟨0, rfl, by omega, Lib.hid fun j h => absurd h (by omega), rfl⟩
  case round =>
    obtain ⟨k, rfl, hk, HQ, rfl⟩ := hrel
    by_cases h : k < xs.length
    · obtain ⟨x, rfl, hcell⟩ := hx.at h
      rw [show xs.getD k 0 = xs[k] by simp [h]] at hcell
      by_cases hb : xs[k] < 0 ∨ 1000000 < xs[k]
      · have HA : Hid (ckArg n xs Q = 7) := Lib.hid (by rw [HK.out, badIn_at h hb]; rfl)
        by_cases h0 : xs[k] < 0
        · have r1 : decide (xs[k] < 0) = true := decide_eq_true h0
          generalize xs[k] = v at *
          clear hb h0
          go_wp2
          go_ret
          exact ⟨by rw [HA.out]; rfl, rfl⟩
        · have r1 : decide (xs[k] < 0) = false := decide_eq_false h0
          have r2 : decide (xs[k] > 1000000) = true := decide_eq_true (by omega)
          generalize xs[k] = v at *
          clear hb h0
          go_wp2
          go_ret
          exact ⟨by rw [HA.out]; rfl, rfl⟩
      · have HE := Lib.hid hb
        have r1 : decide (xs[k] < 0) = false := decide_eq_false (by omega)
        have r2 : decide (xs[k] > 1000000) = false := decide_eq_false (by omega)
        obtain ⟨v, hv⟩ : ∃ v, xs[k] = v := ⟨_, rfl⟩
        rw [hv] at r1 r2 hcell
        clear hb hv
        go_wp2
        go_roundw
        case rel => exact ⟨k + 1, by go_num, by omega, Lib.hid fun j h1 h2 => by
            by_cases hj : j = k
            · subst hj; exact HE.out
            · exact HQ.out j (by omega) h2, trivial⟩
        case measure => simp [intOf]; omega
    · have HA : Hid (ckArg n xs Q = 0) := Lib.hid (by rw [HK.out, badIn_none fun j hj => HQ.out j (by omega) hj]; rfl)
      go_wp2
      go_ret
      exact ⟨by rw [HA.out]; rfl, rfl⟩
/-- The first error of the arguments of Next. -/
def exOf (t : Int) (xs : List Int) (l : Shares) (n : Nat) (cs : List Int) (Q : Int) : Int := if ckOf l ≠ 0 then ckOf l else if ¬ stOk t xs l.length then 8 else ckArg n cs Q
set_option maxRecDepth 100000 in
set_option maxHeartbeats 4000000 in
theorem examine_any (t : Int) (xs : List Int) (ax : Option Addr) (cx : Nat) (l : Shares) (al : Option Addr) (cl : Nat) (n : Nat) (aq : Option Addr) (cq : Nat) (Q : Int) (cs : List Int) (a : Option Addr) (c : Nat) (w : World)
    (hxs : Ints .i64 w ax xs) (hcx : xs.length ≤ cx) (hlx : xs.length ≤ 1000000) (hx : Shs w al l) (hcl : l.length ≤ cl) (hll : l.length ≤ 1000000) (hcs : Ints .i64 w a cs) (hc : cs.length ≤ c) (hl : cs.length ≤ 1000000) (hn : n ≤ 1000000) :
    Calls Try.prog 26 #[.agg #[.int .i64 t, .slice ax xs.length cx], .slice al l.length cl, .slice aq n cq, .slice a cs.length c, .int .i64 Q] w fun e w' => e = .returned (.int .i64 (exOf t xs l n cs Q)) ∧ Below w.heap.size w w' := by
  obtain ⟨W1, hW1⟩ : ∃ W1, W1 = w.alloc (.cells #[.int .i64 t, .slice ax xs.length cx] 31) := ⟨_, rfl⟩
  have hb1 : Below w.heap.size w W1 := by rw [hW1]; exact below_alloc (Below.refl _ _) _
  have B1 : Blk W1 w.heap.size 31 #[.int .i64 t, .slice ax xs.length cx] := by rw [hW1]; exact Blk.new w 31 _
  have CK := Lib.hid (check_any l al cl W1 (hx.below hb1) hcl hll)
  have FI : Hid (∀ wx, Below W1.heap.size W1 wx → Calls Try.prog 33 #[.agg #[.int .i64 t, .slice ax xs.length cx], .int .i64 l.length] wx fun e w' => e = .returned (.bool (decide (stOk t xs l.length))) ∧ Below wx.heap.size wx w') := Lib.hid fun wx hb => fits_any t xs l.length ax cx wx (hxs.below (Below.next hb1 hb)) hcx hlx hll
  have PE : Hid (∀ wx, Below W1.heap.size W1 wx → Calls Try.prog 32 #[.int .i64 Q, .slice a cs.length c] wx fun e w' => e = .returned (.bool (decide ((1 ≤ Q ∧ Q ≤ 1000000) ∧ badIn 1000000 cs = false))) ∧ w' = wx) := Lib.hid fun wx hb => permitted_any Q cs a c wx (hcs.below (Below.next hb1 hb)) hc hl
  have HB := Lib.hid (And.intro hb1 B1)
  clear hb1 B1 hx hxs hcs
  by_cases h : ckOf l = 0
  case neg =>
    have HA := Lib.hid (show exOf t xs l n cs Q = ckOf l by rw [exOf, if_pos h])
    have q : (ckOf l != 0) = true := by rw [bne_iff_ne]; exact h
    obtain ⟨ck, hck⟩ : ∃ ck, ckOf l = ck := ⟨_, rfl⟩
    rw [hck] at CK q HA
    clear h hck
    go_enter Try.func26, Try.ntmps26
    go_wp2_with fail
    rw [← hW1]
    refine CK.out.mono ?_
    rintro e w2 ⟨rfl, hb2⟩
    have H2 := Lib.hid (Below.next HB.out.1 hb2)
    clear hW1 hb2
    go_wp2
    go_ret
    exact ⟨by rw [HA.out]; rfl, H2.out⟩
  have HX : exOf t xs l n cs Q = if ¬ stOk t xs l.length then 8 else ckArg n cs Q := by rw [exOf, if_neg (fun h2 => h2 h)]
  rw [h] at CK
  clear h
  by_cases hst : stOk t xs l.length
  case neg =>
    have HA := Lib.hid (HX.trans (if_pos hst))
    rw [decide_eq_false hst] at FI
    clear HX hst
    go_enter Try.func26, Try.ntmps26
    go_wp2_with fail
    rw [← hW1]
    refine CK.out.mono ?_
    rintro e w2 ⟨rfl, hb2⟩
    have H2 := Lib.hid hb2
    have B2 := HB.out.2.below hb2
    have d0 : w2.cell? ⟨w.heap.size, 0, none⟩ = some (.int .i64 t) := B2.cell 0
    have d1 : w2.cell? ⟨w.heap.size, 1, none⟩ = some (.slice ax xs.length cx) := B2.cell 1
    clear hW1 hb2 B2
    go_wp2_with fail
    refine (FI.out _ H2.out).mono ?_
    rintro e w3 ⟨rfl, hb3⟩
    have H3 := Lib.hid (Below.next HB.out.1 (Below.next H2.out hb3))
    clear hb3 d0 d1
    go_wp2
    go_ret
    exact ⟨by rw [HA.out]; rfl, H3.out⟩
  rw [if_neg (fun h => h hst)] at HX
  rw [decide_eq_true hst] at FI
  clear hst
  by_cases h1 : n > 64
  case pos =>
    have HA := Lib.hid (show exOf t xs l n cs Q = 6 by rw [HX, ckArg, if_pos h1])
    have q1 : decide ((n : Int) > 64) = true := decide_eq_true (by omega)
    clear HX h1
    go_enter Try.func26, Try.ntmps26
    go_wp2_with fail
    rw [← hW1]
    refine CK.out.mono ?_
    rintro e w2 ⟨rfl, hb2⟩
    have H2 := Lib.hid hb2
    have B2 := HB.out.2.below hb2
    have d0 : w2.cell? ⟨w.heap.size, 0, none⟩ = some (.int .i64 t) := B2.cell 0
    have d1 : w2.cell? ⟨w.heap.size, 1, none⟩ = some (.slice ax xs.length cx) := B2.cell 1
    clear hW1 hb2 B2
    go_wp2_with fail
    refine (FI.out _ H2.out).mono ?_
    rintro e w3 ⟨rfl, hb3⟩
    have H4 := Lib.hid (Below.next H2.out hb3)
    have H3 := Lib.hid (Below.next HB.out.1 H4.out)
    clear hb3 d0 d1
    go_wp2
    go_ret
    exact ⟨by rw [HA.out]; rfl, H3.out⟩
  have q1 : decide ((n : Int) > 64) = false := decide_eq_false (by omega)
  by_cases h2 : cs.length ≠ n
  case pos =>
    have HA := Lib.hid (show exOf t xs l n cs Q = 8 by rw [HX, ckArg, if_neg h1, if_pos h2])
    have q2 : ((cs.length : Int) != (n : Int)) = true := by rw [bne_iff_ne]; omega
    clear HX h1 h2
    go_enter Try.func26, Try.ntmps26
    go_wp2_with fail
    rw [← hW1]
    refine CK.out.mono ?_
    rintro e w2 ⟨rfl, hb2⟩
    have H2 := Lib.hid hb2
    have B2 := HB.out.2.below hb2
    have d0 : w2.cell? ⟨w.heap.size, 0, none⟩ = some (.int .i64 t) := B2.cell 0
    have d1 : w2.cell? ⟨w.heap.size, 1, none⟩ = some (.slice ax xs.length cx) := B2.cell 1
    clear hW1 hb2 B2
    go_wp2_with fail
    refine (FI.out _ H2.out).mono ?_
    rintro e w3 ⟨rfl, hb3⟩
    have H4 := Lib.hid (Below.next H2.out hb3)
    have H3 := Lib.hid (Below.next HB.out.1 H4.out)
    clear hb3 d0 d1
    go_wp2
    go_ret
    exact ⟨by rw [HA.out]; rfl, H3.out⟩
  have q2 : ((cs.length : Int) != (n : Int)) = false := by rw [bne_eq_false_iff_eq]; omega
  rw [ckArg, if_neg h1, if_neg h2] at HX
  clear h1 h2
  by_cases h3 : (1 ≤ Q ∧ Q ≤ 1000000) ∧ badIn 1000000 cs = false
  case pos =>
    rw [if_pos h3] at HX
    rw [decide_eq_true h3] at PE
    have HA := Lib.hid HX
    clear HX h3
    go_enter Try.func26, Try.ntmps26
    go_wp2_with fail
    rw [← hW1]
    refine CK.out.mono ?_
    rintro e w2 ⟨rfl, hb2⟩
    have H2 := Lib.hid hb2
    have B2 := HB.out.2.below hb2
    have d0 : w2.cell? ⟨w.heap.size, 0, none⟩ = some (.int .i64 t) := B2.cell 0
    have d1 : w2.cell? ⟨w.heap.size, 1, none⟩ = some (.slice ax xs.length cx) := B2.cell 1
    clear hW1 hb2 B2
    go_wp2_with fail
    refine (FI.out _ H2.out).mono ?_
    rintro e w3 ⟨rfl, hb3⟩
    have H4 := Lib.hid (Below.next H2.out hb3)
    have H3 := Lib.hid (Below.next HB.out.1 H4.out)
    clear hb3 d0 d1
    go_wp2_with fail
    refine (PE.out _ H4.out).mono ?_
    rintro e w4 ⟨rfl, rfl⟩
    go_wp2
    go_ret
    exact ⟨by rw [HA.out]; rfl, H3.out⟩
  case neg =>
    rw [if_neg h3] at HX
    rw [decide_eq_false h3] at PE
    have HA := Lib.hid HX
    clear HX h3
    go_enter Try.func26, Try.ntmps26
    go_wp2_with fail
    rw [← hW1]
    refine CK.out.mono ?_
    rintro e w2 ⟨rfl, hb2⟩
    have H2 := Lib.hid hb2
    have B2 := HB.out.2.below hb2
    have d0 : w2.cell? ⟨w.heap.size, 0, none⟩ = some (.int .i64 t) := B2.cell 0
    have d1 : w2.cell? ⟨w.heap.size, 1, none⟩ = some (.slice ax xs.length cx) := B2.cell 1
    clear hW1 hb2 B2
    go_wp2_with fail
    refine (FI.out _ H2.out).mono ?_
    rintro e w3 ⟨rfl, hb3⟩
    have H4 := Lib.hid (Below.next H2.out hb3)
    have H3 := Lib.hid (Below.next HB.out.1 H4.out)
    clear hb3 d0 d1
    go_wp2_with fail
    refine (PE.out _ H4.out).mono ?_
    rintro e w4 ⟨rfl, rfl⟩
    go_wp2
    go_ret
    exact ⟨by rw [HA.out]; rfl, H3.out⟩
end Go.Proofs.Ytdfnpknekjgkiaa
