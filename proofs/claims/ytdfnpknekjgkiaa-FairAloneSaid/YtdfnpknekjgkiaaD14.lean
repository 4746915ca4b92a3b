/- same, waits, few; Lag, in the program and in the reference. -/
import Derived.Test.YtdfnpknekjgkiaaD13
namespace Go.Proofs.Ytdfnpknekjgkiaa
open Go.RowKit
set_option linter.unusedVariables false
set_option linter.unusedSimpArgs false

set_option maxRecDepth 100000 in
set_option maxHeartbeats 4000000 in
theorem same_any (xs ys : List Int) (a b : Option Addr) (c d : Nat) (w : World) (hx : Ints .i64 w a xs) (hy : Ints .i64 w b ys) (hc : xs.length ≤ c) (hd : ys.length ≤ d) (hl : xs.length ≤ 1000000) (hl2 : ys.length ≤ 1000000) :
    Calls Try.prog 15 #[.slice a xs.length c, .slice b ys.length d] w fun e w' => e = .returned (.bool (decide (xs = ys))) ∧ Below w.heap.size w w' := by
  by_cases hlen : xs.length = ys.length
  case neg =>
    have HV := Lib.hid (decide_eq_false (fun h => hlen (by rw [h])) : decide (xs = ys) = false)
    have q : ((xs.length : Int) != (ys.length : Int)) = true := by rw [bne_iff_ne]; omega
    clear hlen hx hy
    go_enter Try.func15, Try.ntmps15
    go_wp2
    go_ret
    exact ⟨by rw [HV.out]; rfl, Below.refl _ _⟩
  have q : ((xs.length : Int) != (ys.length : Int)) = false := by rw [bne_eq_false_iff_eq]; omega
  have HL := Lib.hid hlen
  clear hlen
  go_enter Try.func15, Try.ntmps15
  go_wp2
  go_loopw [5] (fun i wr => ∃ k n : Nat, i = .int .i64 k ∧ k ≤ xs.length ∧ Hid (xs.take k = ys.take k) ∧ wr = w.drewN n) (fun i _ => xs.length - (intOf i).toNat)
  case atStart => exact ⟨0, 0, rfl, by omega, Lib.hid (by simp), rfl⟩
  case round =>
    obtain ⟨k, n, rfl, hk, HQ, rfl⟩ := hrel
    by_cases h : k < xs.length
    · have h2 : k < ys.length := by rw [← HL.out]; exact h
      obtain ⟨x, rfl, e1⟩ := hx.at h
      obtain ⟨y, rfl, e2⟩ := hy.at h2
      rw [show xs.getD k 0 = xs[k] by simp [h]] at e1
      rw [show ys.getD k 0 = ys[k] by simp [h2]] at e2
      have g0 : (0 : Int) ≤ (k : Int) := by omega
      have g1 : (k : Int) < (xs.length : Int) := by omega
      have g2 : (k : Int) < (ys.length : Int) := by omega
      by_cases he : xs[k] = ys[k]
      · have HN : Hid (xs.take (k + 1) = ys.take (k + 1)) := Lib.hid (by rw [List.take_succ_eq_append_getElem h, List.take_succ_eq_append_getElem h2, HQ.out, he])
        rw [← he] at e2
        have q2 : (xs[k] != xs[k]) = false := by simp
        generalize xs[k] = v at *
        clear he
        go_wp2
        go_quiet (fail)
        go_wp2
        go_roundw
        case rel => exact ⟨k + 1, n + nq, by go_num, by omega, HN, rfl⟩
        case measure => simp [intOf]; omega
      · have HV : Hid (decide (xs = ys) = false) := by
          refine Lib.hid (decide_eq_false fun h => he ?_)
          subst h; rfl
        have q2 : (xs[k] != ys[k]) = true := by rw [bne_iff_ne]; exact he
        generalize xs[k] = v at *
        generalize ys[k] = u at *
        clear he
        go_wp2
        go_quiet (fail)
        go_wp2
        go_ret
        exact ⟨by rw [HV.out]; rfl, below_drewN (below_drewN (Below.refl _ _) _) _⟩
    · have HV : Hid (decide (xs = ys) = true) := by
        refine Lib.hid (decide_eq_true ?_)
        have := HQ.out
        rw [List.take_of_length_le (by omega), List.take_of_length_le (by rw [← HL.out]; omega)] at this
        exact this
      go_wp2
      go_ret
      exact ⟨by rw [HV.out]; rfl, below_drewN (Below.refl _ _) _⟩
/-- Does a request of the tenant wait behind the first n? -/
def waitsP (ts : List ByteArray) (o : List Nat) (n : Nat) (t : ByteArray) : Prop := ∃ a, n ≤ a ∧ ∃ h : a < o.length, ts.getD o[a] default = t
set_option maxRecDepth 100000 in
set_option maxHeartbeats 4000000 in
theorem waits_any (ts : List ByteArray) (o : List Nat) (n : Nat) (t : ByteArray) (aq ao : Option Addr) (cq co : Nat) (w : World) (hq : Rqs w aq ts) (ho : Vals w ao (nInts o)) (hcq : ts.length ≤ cq) (hco : o.length ≤ co) (hn : n ≤ o.length) (hl : o.length ≤ 1000000) (htl : ts.length ≤ 1000000) (hr : ∀ j ∈ o, j < ts.length) :
    Calls Try.prog 22 #[.slice aq ts.length cq, .slice ao o.length co, .int .i64 n, .string t] w fun e w' => ∃ b, e = .returned (.bool b) ∧ (b = true ↔ waitsP ts o n t) ∧ w' = w := by
  go_enter Try.func22, Try.ntmps22
  go_wp2
  go_loopw [9] (fun i wr => ∃ k : Nat, i = .int .i64 k ∧ n ≤ k ∧ k ≤ o.length ∧ Hid (∀ a, n ≤ a → a < k → ∀ h : a < o.length, ts.getD o[a] default ≠ t) ∧ wr = w) (fun i _ => o.length - (intOf i).toNat)
  case atStart => exact ⟨n, rfl, Nat.le_refl _, hn, Lib.hid fun a h1 h2 => absurd h2 (by omega), rfl⟩
  case round =>
    obtain ⟨k, rfl, hnk, hk, HQ, rfl⟩ := hrel
    by_cases h : k < o.length
    · obtain ⟨x, rfl, e1⟩ := ho.at (i := k) (v := .int .i64 (o[k] : Nat)) (by simp [nInts, h])
      have hj := hr o[k] (List.getElem_mem h)
      obtain ⟨y, rfl, e2⟩ := hq.at hj
      have e3 := e2.c1
      have htk : ts.getD o[k] default = ts[o[k]] := by simp [hj]
      rw [← htk] at e3
      have g0 : (0 : Int) ≤ (k : Int) := by omega
      have g1 : (k : Int) < (o.length : Int) := by omega
      have g2 : (0 : Int) ≤ (o[k] : Int) := by omega
      have g3 : (o[k] : Int) < (ts.length : Int) := by omega
      by_cases he : ts.getD o[k] default = t
      · have HV : Hid (waitsP ts o n t) := Lib.hid ⟨k, hnk, h, he⟩
        rw [he] at e3
        have q := eq_str (rfl : t = t)
        generalize o[k] = j at *
        clear he htk hj e2
        go_wp2
        go_ret
        exact ⟨true, rfl, ⟨fun _ => HV.out, fun _ => rfl⟩, rfl⟩
      · have q := ne_str he
        have HE := Lib.hid he
        obtain ⟨j, hje⟩ : ∃ j, o[k] = j := ⟨_, rfl⟩
        obtain ⟨u, hu⟩ : ∃ u, ts.getD o[k] default = u := ⟨_, rfl⟩
        rw [hu] at e3 q
        rw [hje] at e3 e1 g2 g3
        clear he htk hj e2 hje hu
        go_wp2
        go_roundw
        case rel => exact ⟨k + 1, by go_num, by omega, by omega, Lib.hid fun a h1 h2 h3 => by
            by_cases hj : a = k
            · subst hj; exact HE.out
            · exact HQ.out a h1 (by omega) h3, trivial⟩
        case measure => simp [intOf]; omega
    · have HV : Hid (¬ waitsP ts o n t) := Lib.hid fun ⟨a, h1, h2, h3⟩ => HQ.out a h1 (by omega) h2 h3
      go_wp2
      go_ret
      exact ⟨false, rfl, ⟨(fun h => by cases h), fun h => absurd h HV.out⟩, rfl⟩
/-- The greatest lag. -/
def lagOf (wt Q : Int) (cs : List Int) : Int := if (1 ≤ wt ∧ wt ≤ 1000) ∧ (1 ≤ Q ∧ Q ≤ 1000000) ∧ badIn 1000000 cs = false then Q * wt + mostOf cs else 0
theorem most_take (cs : List Int) (k : Nat) (h : k < cs.length) : mostOf (cs.take (k + 1)) = max (mostOf (cs.take k)) cs[k] := by
  unfold mostOf
  rw [foldl_take_succ _ _ _ _ h]
theorem most_le {cs : List Int} {m : Int} (hm : 0 ≤ m) (h : ∀ x ∈ cs, x ≤ m) : 0 ≤ mostOf cs ∧ mostOf cs ≤ m := by
  have : ∀ (xs : List Int) (a : Int), 0 ≤ a → a ≤ m → (∀ x ∈ xs, x ≤ m) → 0 ≤ xs.foldl max a ∧ xs.foldl max a ≤ m := by
    intro xs
    induction xs with
    | nil => intro a h1 h2 _; exact ⟨h1, h2⟩
    | cons x r ih =>
      intro a h1 h2 h3
      have := h3 x (by simp)
      exact ih (max a x) (by omega) (by omega) (fun y hy => h3 y (by simp [hy]))
  exact this cs 0 (by omega) hm h
set_option maxRecDepth 100000 in
set_option maxHeartbeats 4000000 in
theorem lag_any (wt Q : Int) (cs : List Int) (a : Option Addr) (c : Nat) (w : World) (hx : Ints .i64 w a cs) (hc : cs.length ≤ c) (hl : cs.length ≤ 1000000) :
    Calls Try.prog 20 #[.int .i64 wt, .int .i64 Q, .slice a cs.length c] w fun e w' => e = .returned (.int .i64 (lagOf wt Q cs)) ∧ w' = w := by
  have PE := Lib.hid (permitted_any Q cs a c w hx hc hl)
  by_cases h1 : wt < 1
  · have HV : Hid (lagOf wt Q cs = 0) := Lib.hid (by rw [lagOf, if_neg (fun h => by omega)])
    have q1 : decide (wt < 1) = true := decide_eq_true h1
    clear hx h1
    go_enter Try.func20, Try.ntmps20
    go_wp2
    go_ret
    exact ⟨by rw [HV.out]; rfl, rfl⟩
  have q1 : decide (wt < 1) = false := decide_eq_false h1
  by_cases h2 : wt > 1000
  · have HV : Hid (lagOf wt Q cs = 0) := Lib.hid (by rw [lagOf, if_neg (fun h => by omega)])
    have q2 : decide (wt > 1000) = true := decide_eq_true h2
    clear hx h1 h2
    go_enter Try.func20, Try.ntmps20
    go_wp2
    go_ret
    exact ⟨by rw [HV.out]; rfl, rfl⟩
  have q2 : decide (wt > 1000) = false := decide_eq_false h2
  by_cases h3 : (1 ≤ Q ∧ Q ≤ 1000000) ∧ badIn 1000000 cs = false
  case neg =>
    have HV : Hid (lagOf wt Q cs = 0) := Lib.hid (by rw [lagOf, if_neg (fun h => h3 h.2)])
    rw [decide_eq_false h3] at PE
    clear hx h1 h2 h3
    go_enter Try.func20, Try.ntmps20
    go_wp2_with fail
    refine PE.out.mono ?_
    rintro e w1 ⟨rfl, rfl⟩
    go_wp2
    go_ret
    exact ⟨by rw [HV.out]; rfl, rfl⟩
  rw [decide_eq_true h3] at PE
  have hg : (1 ≤ wt ∧ wt ≤ 1000) ∧ (1 ≤ Q ∧ Q ≤ 1000000) ∧ badIn 1000000 cs = false := ⟨by omega, h3⟩
  have HBB := Lib.hid (badIn_false h3.2)
  clear h1 h2 h3
  go_enter Try.func20, Try.ntmps20
  go_wp2_with fail
  refine PE.out.mono ?_
  rintro e w1 ⟨rfl, rfl⟩
  go_wp2
  go_loopw [7, 24] (fun m i wr => ∃ k : Nat, i = .int .i64 k ∧ k ≤ cs.length ∧ m = .int .i64 (mostOf (cs.take k)) ∧ wr = w1) (fun _ i _ => cs.length - (intOf i).toNat)
  case atStart => exact ⟨0, rfl, by omega, rfl, rfl⟩
  case round =>
    obtain ⟨k, rfl, hk, rfl, rfl⟩ := hrel
    by_cases h : k < cs.length
    · obtain ⟨x, rfl, e1⟩ := hx.at h
      rw [show cs.getD k 0 = cs[k] by simp [h]] at e1
      have hmt := most_take cs k h
      have hbk := HBB.out _ (List.getElem_mem h)
      have p1 : decide (cs[k] < 0) = false := decide_eq_false (by omega)
      have p2 : decide (cs[k] > 1000000) = false := decide_eq_false (by omega)
      by_cases hm : mostOf (cs.take k) < cs[k]
      · have HN : Hid (mostOf (cs.take (k + 1)) = cs[k]) := Lib.hid (by rw [hmt]; omega)
        generalize mostOf (cs.take k) = m at *
        generalize cs[k] = v at *
        clear hmt hbk
        have p3 : decide (m < v) = true := decide_eq_true hm
        go_wp2
        go_roundw
        case rel => exact ⟨k + 1, by go_num, by omega, by rw [HN.out], trivial⟩
        case measure => simp [intOf]; omega
      · have HN : Hid (mostOf (cs.take (k + 1)) = mostOf (cs.take k)) := Lib.hid (by rw [hmt]; omega)
        generalize mostOf (cs.take k) = m at *
        generalize cs[k] = v at *
        clear hmt hbk
        have p3 : decide (m < v) = false := decide_eq_false hm
        go_wp2
        go_roundw
        case rel => exact ⟨k + 1, by go_num, by omega, by rw [HN.out], trivial⟩
        case measure => simp [intOf]; omega
    · have HT : Hid (mostOf (cs.take k) = mostOf cs) := Lib.hid (by rw [List.take_of_length_le (by omega)])
      have hml := most_le (cs := cs.take k) (m := 1000000) (by omega) (fun x hx => (HBB.out x (List.mem_of_mem_take hx)).2)
      generalize mostOf (cs.take k) = m at *
      have hmp := mul_pos_le ⟨hg.2.1.1, hg.2.1.2⟩ ⟨hg.1.1, hg.1.2⟩
      have m1 : IntKind.i64.wrap (Q * wt) = Q * wt := IntWalk.i64_in _ (by omega)
      have m2 : IntKind.i64.wrap (Q * wt + m) = Q * wt + m := IntWalk.i64_in _ (by omega)
      have HV : Hid (lagOf wt Q cs = Q * wt + m) := Lib.hid (by rw [lagOf, if_pos hg, HT.out])
      clear hg hml
      go_wp2
      go_ret
      exact ⟨by rw [HV.out]; rfl, rfl⟩
set_option maxRecDepth 100000 in
set_option maxHeartbeats 4000000 in
theorem rlag_any (wt Q : Int) (cs : List Int) (a : Option Addr) (c : Nat) (w : World) (hx : Ints .i64 w a cs) (hc : cs.length ≤ c) (hl : cs.length ≤ 1000000) :
    Calls Try.prog 21 #[.int .i64 wt, .int .i64 Q, .slice a cs.length c] w fun e w' => e = .returned (.int .i64 (lagOf wt Q cs)) ∧ w' = w := by
  by_cases h0 : wt < 1
  · have HV : Hid (lagOf wt Q cs = 0) := Lib.hid (by rw [lagOf, if_neg (fun h => by omega)])
    have q0 : decide (wt < 1) = true := decide_eq_true h0
    clear hx h0
    go_enter Try.func21, Try.ntmps21
    go_wp2
    go_ret
    exact ⟨by rw [HV.out]; rfl, rfl⟩
  have q0 : decide (wt < 1) = false := decide_eq_false h0
  by_cases h1 : wt > 1000
  · have HV : Hid (lagOf wt Q cs = 0) := Lib.hid (by rw [lagOf, if_neg (fun h => by omega)])
    have q1 : decide (wt > 1000) = true := decide_eq_true h1
    clear hx h0 h1
    go_enter Try.func21, Try.ntmps21
    go_wp2
    go_ret
    exact ⟨by rw [HV.out]; rfl, rfl⟩
  have q1 : decide (wt > 1000) = false := decide_eq_false h1
  by_cases h2 : Q < 1
  · have HV : Hid (lagOf wt Q cs = 0) := Lib.hid (by rw [lagOf, if_neg (fun h => by omega)])
    have q2 : decide (Q < 1) = true := decide_eq_true h2
    clear hx h0 h1 h2
    go_enter Try.func21, Try.ntmps21
    go_wp2
    go_ret
    exact ⟨by rw [HV.out]; rfl, rfl⟩
  have q2 : decide (Q < 1) = false := decide_eq_false h2
  by_cases h3 : Q > 1000000
  · have HV : Hid (lagOf wt Q cs = 0) := Lib.hid (by rw [lagOf, if_neg (fun h => by omega)])
    have q3 : decide (Q > 1000000) = true := decide_eq_true h3
    clear hx h0 h1 h2 h3
    go_enter Try.func21, Try.ntmps21
    go_wp2
    go_ret
    exact ⟨by rw [HV.out]; rfl, rfl⟩
  have q3 : decide (Q > 1000000) = false := decide_eq_false h3
  have HL : Hid (lagOf wt Q cs = if badIn 1000000 cs = false then Q * wt + mostOf cs else 0) := by
    refine Lib.hid ?_
    unfold lagOf
    by_cases hb : badIn 1000000 cs = false
    · rw [if_pos hb, if_pos ⟨by omega, by omega, hb⟩]
    · rw [if_neg hb, if_neg (fun h => hb h.2.2)]
  have hm64 := mul_pos_le (q := Q) (w := wt) (by omega) (by omega)
  clear h0 h1 h2 h3
  go_enter Try.func21, Try.ntmps21
  go_wp2
  go_loopw [7, 8] (fun m i wr => ∃ k : Nat, i = .int .i64 k ∧ k ≤ cs.length ∧ m = .int .i64 (mostOf (cs.take k)) ∧ Hid (∀ j (h : j < k) (h2 : j < cs.length), ¬ (cs[j] < 0 ∨ 1000000 < cs[j])) ∧ wr = w) (fun _ i _ => cs.length - (intOf i).toNat)
  case atStart => exact ⟨0, rfl, by omega, rfl, Lib.hid fun j h => absurd h (by omega), rfl⟩
  case round =>
    obtain ⟨k, rfl, hk, rfl, HQ, rfl⟩ := hrel
    by_cases h : k < cs.length
    · obtain ⟨x, rfl, e1⟩ := hx.at h
      rw [show cs.getD k 0 = cs[k] by simp [h]] at e1
      by_cases hb : cs[k] < 0 ∨ 1000000 < cs[k]
      · have HV : Hid (lagOf wt Q cs = 0) := Lib.hid (by rw [HL.out, badIn_at h hb]; rfl)
        generalize mostOf (cs.take k) = m at *
        by_cases h0 : cs[k] < 0
        · have r1 : decide (cs[k] < 0) = true := decide_eq_true h0
          generalize cs[k] = v at *
          clear hb h0
          go_wp2
          go_ret
          exact ⟨by rw [HV.out]; rfl, rfl⟩
        · have r1 : decide (cs[k] < 0) = false := decide_eq_false h0
          have r2 : decide (cs[k] > 1000000) = true := decide_eq_true (by omega)
          generalize cs[k] = v at *
          clear hb h0
          go_wp2
          go_ret
          exact ⟨by rw [HV.out]; rfl, rfl⟩
      have HE := Lib.hid hb
      have hmt := most_take cs k h
      have p1 : decide (cs[k] < 0) = false := decide_eq_false (by omega)
      have p2 : decide (cs[k] > 1000000) = false := decide_eq_false (by omega)
      have HNQ : Hid (∀ j (h : j < k + 1) (h2 : j < cs.length), ¬ (cs[j] < 0 ∨ 1000000 < cs[j])) := Lib.hid fun j h1 h2 => by
        by_cases hj : j = k
        · subst hj; exact HE.out
        · exact HQ.out j (by omega) h2
      by_cases hm : mostOf (cs.take k) < cs[k]
      · have HN : Hid (mostOf (cs.take (k + 1)) = cs[k]) := Lib.hid (by rw [hmt]; omega)
        obtain ⟨m, hme⟩ : ∃ m, mostOf (cs.take k) = m := ⟨_, rfl⟩
        obtain ⟨v, hv⟩ : ∃ v, cs[k] = v := ⟨_, rfl⟩
        rw [hv] at p1 p2 hm HN e1
        rw [hme] at hm ⊢
        clear hmt hb hv hme
        have p3 : decide (m < v) = true := decide_eq_true hm
        go_wp2
        go_roundw
        case rel => exact ⟨k + 1, by go_num, by omega, by rw [HN.out], HNQ, trivial⟩
        case measure => simp [intOf]; omega
      · have HN : Hid (mostOf (cs.take (k + 1)) = mostOf (cs.take k)) := Lib.hid (by rw [hmt]; omega)
        obtain ⟨m, hme⟩ : ∃ m, mostOf (cs.take k) = m := ⟨_, rfl⟩
        obtain ⟨v, hv⟩ : ∃ v, cs[k] = v := ⟨_, rfl⟩
        rw [hv] at p1 p2 hm e1
        rw [hme] at hm HN ⊢
        clear hmt hb hv hme
        have p3 : decide (m < v) = false := decide_eq_false hm
        go_wp2
        go_roundw
        case rel => exact ⟨k + 1, by go_num, by omega, by rw [HN.out], HNQ, trivial⟩
        case measure => simp [intOf]; omega
    · have hbf := badIn_none (lim := 1000000) fun j hj => HQ.out j (by omega) hj
      have HT : Hid (mostOf (cs.take k) = mostOf cs) := Lib.hid (by rw [List.take_of_length_le (by omega)])
      have hml := most_le (cs := cs.take k) (m := 1000000) (by omega) (fun x hx => (badIn_false hbf x (List.mem_of_mem_take hx)).2)
      have HV : Hid (lagOf wt Q cs = Q * wt + mostOf (cs.take k)) := Lib.hid (by rw [HL.out, if_pos hbf, HT.out])
      generalize mostOf (cs.take k) = m at *
      have m1 : IntKind.i64.wrap (Q * wt) = Q * wt := IntWalk.i64_in _ (by omega)
      have m2 : IntKind.i64.wrap (Q * wt + m) = Q * wt + m := IntWalk.i64_in _ (by omega)
      clear hml hbf
      go_wp2
      go_ret
      exact ⟨by rw [HV.out]; rfl, rfl⟩
set_option maxRecDepth 100000 in
set_option maxHeartbeats 4000000 in
theorem few_any (l asks : Shares) (Q : Int) (al aa : Option Addr) (cl ca : Nat) (w : World) (hx : Shs w al l) (ha : Shs w aa asks) (hc : l.length ≤ cl) (hca : asks.length ≤ ca) (hl : l.length ≤ 9223372036854775807) (hla : asks.length ≤ 9223372036854775807) (hr : ∀ s ∈ asks, -9223372036854775808 ≤ s.2 ∧ s.2 ≤ 9223372036854775807) :
    Calls Try.prog 10 #[.slice al l.length cl, .slice aa asks.length ca, .int .i64 Q] w fun e w' => ∃ b, e = .returned (.bool b) ∧ (b = true → l.length ≤ 80 ∧ asks.length ≤ 70) ∧ w' = w := by
  by_cases h1 : l.length > 80
  · have q1 : decide ((l.length : Int) > 80) = true := decide_eq_true (by omega)
    clear h1 hx ha
    go_enter Try.func10, Try.ntmps10
    go_wp2
    go_ret
    exact ⟨false, rfl, (fun h => by cases h), rfl⟩
  have q1 : decide ((l.length : Int) > 80) = false := decide_eq_false (by omega)
  by_cases h2 : asks.length > 70
  · have q2 : decide ((asks.length : Int) > 70) = true := decide_eq_true (by omega)
    clear h1 h2 hx ha
    go_enter Try.func10, Try.ntmps10
    go_wp2
    go_ret
    exact ⟨false, rfl, (fun h => by cases h), rfl⟩
  have q2 : decide ((asks.length : Int) > 70) = false := decide_eq_false (by omega)
  have HS := Lib.hid (show l.length ≤ 80 ∧ asks.length ≤ 70 by omega)
  go_enter Try.func10, Try.ntmps10
  go_wp2
  go_loopw [7] (fun i wr => ∃ k : Nat, i = .int .i64 k ∧ k ≤ l.length ∧ wr = w) (fun i _ => l.length - (intOf i).toNat)
  case atStart => exact ⟨0, rfl, by omega, rfl⟩
  case round =>
    obtain ⟨k, rfl, hk, rfl⟩ := hrel
    by_cases h : k < l.length
    · obtain ⟨x, rfl, e1, e2⟩ := hx.at h
      generalize l[k] = s at *
      by_cases h3 : s.1.size > 100
      · have q3 : decide ((s.1.size : Int) > 100) = true := decide_eq_true (by omega)
        clear h3
        go_wp2
        go_ret
        exact ⟨false, rfl, (fun h => by cases h), rfl⟩
      · have q3 : decide ((s.1.size : Int) > 100) = false := decide_eq_false (by omega)
        clear h3
        go_wp2
        go_roundw
        case rel => exact ⟨k + 1, by go_num, by omega, trivial⟩
        case measure => simp [intOf]; omega
    · have q3 : decide ((k : Int) < (l.length : Int)) = false := decide_eq_false (by omega)
      go_wp2
      go_loopw [8] (fun i wy => ∃ k : Nat, i = .int .i64 k ∧ k ≤ asks.length ∧ wy = wr) (fun i _ => asks.length - (intOf i).toNat)
      case atStart => exact ⟨0, rfl, by omega, rfl⟩
      case round =>
        obtain ⟨j, rfl, hj, rfl⟩ := hrel
        by_cases h : j < asks.length
        · obtain ⟨x, rfl, e1, e2⟩ := ha.at h
          have hrs := hr _ (List.getElem_mem h)
          generalize asks[j] = s at *
          by_cases h3 : s.1.size > 100
          · have q3 : decide ((s.1.size : Int) > 100) = true := decide_eq_true (by omega)
            clear h3
            go_wp2
            go_ret
            exact ⟨false, rfl, (fun h => by cases h), rfl⟩
          have q4 : decide ((s.1.size : Int) > 100) = false := decide_eq_false (by omega)
          by_cases h4 : Q > 0
          case neg =>
            have q5 : decide (Q > 0) = false := decide_eq_false h4
            clear h3 h4
            go_wp2
            go_roundw
            case rel => exact ⟨j + 1, by go_num, by omega, trivial⟩
            case measure => simp [intOf]; omega
          have q5 : decide (Q > 0) = true := decide_eq_true h4
          have q6 : Q ≠ 0 := by omega
          clear h3 h4
          go_wp2
          all_goals
            first
              | (go_ret; exact ⟨false, rfl, (fun h => by cases h), rfl⟩)
              | (go_roundw
                 case rel => exact ⟨j + 1, by go_num, by omega, trivial⟩
                 case measure => simp [intOf]; omega)
        · have q4 : decide ((j : Int) < (asks.length : Int)) = false := decide_eq_false (by omega)
          go_wp2
          go_ret
          exact ⟨true, rfl, fun _ => HS.out, rfl⟩
end Go.Proofs.Ytdfnpknekjgkiaa
