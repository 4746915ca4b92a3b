/- Served: words. -/
import Derived.Test.YtdfnpknekjgkiaaD16
import Derived.StillTailTactics
import Derived.BigQuiet
namespace Go.Proofs.Ytdfnpknekjgkiaa
open Go.RowKit
open Go.Proofs.YtdfnpknekjgkiaaW.PrintLast
set_option linter.unusedVariables false
set_option linter.unusedSimpArgs false

/-- What a tenant got from requests. -/
def servedAt (ts : List ByteArray) (cs : List Int) (t : ByteArray) : List Int → Int
  | [] => 0
  | i :: r => (if ts.getD i.toNat default = t then cs.getD i.toNat 0 else 0) + servedAt ts cs t r
theorem servedAt_snoc (ts : List ByteArray) (cs : List Int) (t : ByteArray) : ∀ (xs : List Int) (i : Int), servedAt ts cs t (xs ++ [i]) = servedAt ts cs t xs + (if ts.getD i.toNat default = t then cs.getD i.toNat 0 else 0)
  | [], i => by simp [servedAt]
  | x :: r, i => by rw [List.cons_append, servedAt, servedAt_snoc ts cs t r i, servedAt]; omega
theorem servedAt_take {ts : List ByteArray} {cs : List Int} {t : ByteArray} {xs : List Int} {j : Nat} (h : j < xs.length) : servedAt ts cs t (xs.take (j + 1)) = servedAt ts cs t (xs.take j) + (if ts.getD xs[j].toNat default = t then cs.getD xs[j].toNat 0 else 0) := by
  rw [List.take_succ_eq_append_getElem h, servedAt_snoc]
theorem servedAt_le {ts : List ByteArray} {cs : List Int} {t : ByteArray} {M : Int} (hM : 0 ≤ M) (h : ∀ x ∈ cs, -M ≤ x ∧ x ≤ M) : ∀ (xs : List Int), -(M * xs.length) ≤ servedAt ts cs t xs ∧ servedAt ts cs t xs ≤ M * xs.length
  | [] => by simp [servedAt]
  | i :: r => by
    have ih := servedAt_le (ts := ts) (t := t) hM h r
    have hc : -M ≤ cs.getD i.toNat 0 ∧ cs.getD i.toNat 0 ≤ M := by
      by_cases hi : i.toNat < cs.length
      · have := h _ (List.getElem_mem hi)
        simpa [hi] using this
      · simp [hi]; omega
    rw [servedAt]
    simp only [List.length_cons, Int.natCast_add, Int.mul_add, Int.natCast_one, Int.mul_one]
    split <;> omega
def srv (l : Shares) (ts : List ByteArray) (cs : List Int) (xs : List Int) : List Int := l.map (fun s => servedAt ts cs s.1 xs)
/-- Between two requests. -/
def mix (l : Shares) (ts : List ByteArray) (cs : List Int) (xs : List Int) (j k : Nat) : List Int := (List.range l.length).map (fun p => if p < k then servedAt ts cs (l.getD p (default, 0)).1 (xs.take (j + 1)) else servedAt ts cs (l.getD p (default, 0)).1 (xs.take j))
theorem mix_len (l : Shares) (ts : List ByteArray) (cs : List Int) (xs : List Int) (j k : Nat) : (mix l ts cs xs j k).length = l.length := by simp [mix]
theorem srv_len (l : Shares) (ts : List ByteArray) (cs : List Int) (xs : List Int) : (srv l ts cs xs).length = l.length := by simp [srv]
theorem mix_zero (l : Shares) (ts : List ByteArray) (cs : List Int) (xs : List Int) (j : Nat) : mix l ts cs xs j 0 = srv l ts cs (xs.take j) := by
  unfold mix srv
  apply List.ext_getElem (by simp)
  intro p h1 h2
  simp at h1 h2
  simp [h1]
theorem mix_all (l : Shares) (ts : List ByteArray) (cs : List Int) (xs : List Int) (j : Nat) : mix l ts cs xs j l.length = srv l ts cs (xs.take (j + 1)) := by
  unfold mix srv
  apply List.ext_getElem (by simp)
  intro p h1 h2
  simp at h1 h2
  simp [h1]
theorem mix_at (l : Shares) (ts : List ByteArray) (cs : List Int) (xs : List Int) (j : Nat) {k : Nat} (hk : k < l.length) (d : Int) : (mix l ts cs xs j k).getD k d = servedAt ts cs l[k].1 (xs.take j) := by
  simp [mix, hk]
theorem mix_set (l : Shares) (ts : List ByteArray) (cs : List Int) (xs : List Int) (j : Nat) {k : Nat} (hk : k < l.length) : (mix l ts cs xs j k).set k (servedAt ts cs l[k].1 (xs.take (j + 1))) = mix l ts cs xs j (k + 1) := by
  unfold mix
  apply List.ext_getElem (by simp)
  intro p h1 h2
  simp at h1 h2
  simp only [List.getElem_set, List.getElem_map, List.getElem_range]
  by_cases e : k = p
  · subst e; simp [hk]
  · rw [if_neg e]
    by_cases h : p < k
    · rw [if_pos h, if_pos (by omega)]
    · rw [if_neg h, if_neg (by omega)]
theorem mix_keep (l : Shares) (ts : List ByteArray) (cs : List Int) (xs : List Int) (j : Nat) {k : Nat} (hk : k < l.length) (he : servedAt ts cs l[k].1 (xs.take (j + 1)) = servedAt ts cs l[k].1 (xs.take j)) : mix l ts cs xs j k = mix l ts cs xs j (k + 1) := by
  rw [← mix_set l ts cs xs j hk, he, ← mix_at l ts cs xs j hk 0]
  have hl := mix_len l ts cs xs j k
  apply List.ext_getElem (by simp)
  intro p h1 h2
  simp only [List.getElem_set]
  by_cases e : k = p
  · subst e; simp [h1]
  · rw [if_neg e]
theorem srv_zero (l : Shares) (ts : List ByteArray) (cs : List Int) : srv l ts cs [] = List.replicate l.length 0 := by
  unfold srv
  apply List.ext_getElem (by simp)
  intro p h1 h2
  simp [servedAt]
/-- Is an index out of range? -/
def badIdx (n : Nat) (xs : List Int) : Bool := xs.any (fun c => decide (c < 0 ∨ (n : Int) ≤ c))
theorem badIdx_false {n : Nat} {xs : List Int} (h : badIdx n xs = false) : ∀ x ∈ xs, 0 ≤ x ∧ x < n := fun x hx => by
  have := List.any_eq_false.1 h x hx
  simp only [decide_eq_true_eq] at this
  omega
theorem badIdx_at {n : Nat} {xs : List Int} {k : Nat} (hk : k < xs.length) (h : xs[k] < 0 ∨ (n : Int) ≤ xs[k]) : badIdx n xs = true := List.any_eq_true.2 ⟨_, List.getElem_mem hk, decide_eq_true h⟩
theorem badIdx_none {n : Nat} {xs : List Int} (h : ∀ j (hj : j < xs.length), ¬ (xs[j] < 0 ∨ (n : Int) ≤ xs[j])) : badIdx n xs = false := by
  refine List.any_eq_false.2 fun x hx => ?_
  obtain ⟨j, hj, rfl⟩ := List.getElem_of_mem hx
  simpa using h j hj
set_option maxRecDepth 100000 in
set_option maxHeartbeats 4000000 in
theorem out31_any (x : Int) (n B cq : Nat) (aq : Option Addr) (w : World) (hB : w.cell? ⟨B, 0, none⟩ = some (.slice aq n cq)) : Calls Try.prog 31 #[.int .i64 x, .pointer (some ⟨B, 0, none⟩)] w fun e w' => e = .returned (.bool (decide (x < 0 ∨ (n : Int) ≤ x))) ∧ w' = w := by
  by_cases h1 : x < 0
  · rw [decide_eq_true (Or.inl h1)]
    have q : decide (x < 0) = true := decide_eq_true h1
    clear h1
    go_enter Try.func31, Try.ntmps31
    go_wp2
    go_ret
    exact ⟨rfl, rfl⟩
  · have q : decide (x < 0) = false := decide_eq_false h1
    by_cases h2 : x ≥ n
    · rw [decide_eq_true (Or.inr h2)]
      have q2 : decide (x ≥ (n : Int)) = true := decide_eq_true h2
      clear h1 h2
      go_enter Try.func31, Try.ntmps31
      go_wp2
      go_ret
      exact ⟨rfl, rfl⟩
    · rw [decide_eq_false (by omega)]
      have q2 : decide (x ≥ (n : Int)) = false := decide_eq_false h2
      clear h1 h2
      go_enter Try.func31, Try.ntmps31
      go_wp2
      go_ret
      exact ⟨rfl, rfl⟩
set_option maxRecDepth 100000 in
set_option maxHeartbeats 4000000 in
theorem index31_any (xs : List Int) (a : Option Addr) (c : Nat) (n B cq : Nat) (aq : Option Addr) (w : World) (hx : Ints .i64 w a xs) (hc : xs.length ≤ c) (hl : xs.length ≤ 1000000) (hB : w.cell? ⟨B, 0, none⟩ = some (.slice aq n cq)) :
    Calls Try.prog 39 #[.slice a xs.length c, .func (.func 31) #[] #[.pointer (some ⟨B, 0, none⟩)]] w fun e w' => ∃ i : Int, e = .returned (.int .i64 i) ∧ decide (i ≥ 0) = badIdx n xs ∧ w' = w := by
  go_enter Try.func39, Try.ntmps39
  go_wp2
  go_loopw [8] (fun i wr => ∃ k : Nat, i = .int .i64 k ∧ k ≤ xs.length ∧ Hid (∀ j (h : j < k) (h2 : j < xs.length), ¬ (xs[j] < 0 ∨ (n : Int) ≤ xs[j])) ∧ wr = w) (fun i _ => xs.length - (intOf i).toNat)
  case atStart => exact ⟨0, rfl, by omega, Lib.hid fun j h => absurd h (by omega), rfl⟩
  case round =>
    obtain ⟨k, rfl, hk, HQ, rfl⟩ := hrel
    by_cases h : k < xs.length
    · obtain ⟨x, rfl, hcell⟩ := hx.at h
      rw [show xs.getD k 0 = xs[k] by simp [h]] at hcell
      have P := out31_any xs[k] n B cq aq wr hB
      by_cases hb : xs[k] < 0 ∨ (n : Int) ≤ xs[k]
      · rw [decide_eq_true hb] at P
        have HV := Lib.hid (badIdx_at h hb)
        generalize xs[k] = v at *
        have HP := Lib.hid P
        clear P hb hB
        go_wp2_with fail
        refine HP.out.mono ?_
        rintro e w1 ⟨rfl, rfl⟩
        go_wp2
        go_ret
        exact ⟨k, rfl, by rw [HV.out]; simp, rfl⟩
      · rw [decide_eq_false hb] at P
        have HE := Lib.hid hb
        obtain ⟨v, hv⟩ : ∃ v, xs[k] = v := ⟨_, rfl⟩
        rw [hv] at P hcell
        have HP := Lib.hid P
        clear P hb hv hB
        go_wp2_with fail
        refine HP.out.mono ?_
        rintro e w1 ⟨rfl, rfl⟩
        go_wp2
        go_roundw
        case rel => exact ⟨k + 1, by go_num, by omega, Lib.hid fun j h1 h2 => by
            by_cases hj : j = k
            · subst hj; exact HE.out
            · exact HQ.out j (by omega) h2, trivial⟩
        case measure => simp [intOf]; omega
    · have HV := Lib.hid (badIdx_none (n := n) fun j hj => HQ.out j (by omega) hj)
      clear hB
      go_wp2
      go_ret
      exact ⟨-1, rfl, by rw [HV.out]; decide, rfl⟩
set_option maxRecDepth 100000 in
set_option maxHeartbeats 4000000 in
theorem contains31_any (xs : List Int) (a : Option Addr) (c : Nat) (n B cq : Nat) (aq : Option Addr) (w : World) (hx : Ints .i64 w a xs) (hc : xs.length ≤ c) (hl : xs.length ≤ 1000000) (hB : w.cell? ⟨B, 0, none⟩ = some (.slice aq n cq)) :
    Calls Try.prog 30 #[.slice a xs.length c, .func (.func 31) #[] #[.pointer (some ⟨B, 0, none⟩)]] w fun e w' => e = .returned (.bool (badIdx n xs)) ∧ w' = w := by
  have X := Lib.hid (index31_any xs a c n B cq aq w hx hc hl hB)
  clear hx hB
  go_enter Try.func30, Try.ntmps30
  go_wp2_with fail
  refine X.out.mono ?_
  rintro e w1 ⟨i, rfl, hi, rfl⟩
  have HI := Lib.hid hi
  obtain ⟨b, hb⟩ : ∃ b, decide (i ≥ 0) = b := ⟨_, rfl⟩
  rw [hb] at HI
  clear hi
  go_wp2
  go_ret
  exact ⟨by rw [← HI.out]; rfl, rfl⟩
/-- How many of the order count. -/
def cntOf (n : Int) (len : Nat) : Nat := (max 0 (min n len)).toNat
theorem cntOf_le (n : Int) (len : Nat) : cntOf n len ≤ len := by unfold cntOf; omega
/-- What Served returns. -/
def ServedR (l : Shares) (ts : List ByteArray) (cs xs : List Int) (n : Int) (w : World) (e : Ending) (w' : World) : Prop :=
  (if cs.length = ts.length ∧ badIdx ts.length xs = false then ∃ g, e = .returned (.slice (some ⟨g, 0, none⟩) l.length l.length) ∧ RowI w' w.heap.size g l.length (srv l ts cs (xs.take (cntOf n xs.length)))
   else e = .returned (.slice none 0 0)) ∧ Below w.heap.size w w'
theorem make_ints0 (W : World) (base n : Nat) (hn : n ≤ 1000000) (hb : base ≤ W.heap.size) : (Instr.makeSlice 27 (.int .i64 (n : Int)) (.int .i64 (n : Int))).run Try.prog W = .ok (.slice (some ⟨W.heap.size, 0, none⟩) n n) (W.alloc (.cells (madeCells #[.int .i64 0] n) 3)) ∧ RowI (W.alloc (.cells (madeCells #[.int .i64 0] n) 3)) base W.heap.size n (List.replicate n 0) := by
  have := make_ints W base n hn hb
  rw [Nat.mul_one] at this
  exact this
/-- The memory of Served. -/
structure SeM (w : World) (aq : Option Addr) (nq cq gf cf : Nat) (xs : List Int) (wr : World) : Prop where
  b6 : Blk wr w.heap.size 26 #[.slice aq nq cq]
  row : RowI wr (w.heap.size + 1) gf cf xs
  low : Below w.heap.size w wr
theorem SeM.below {w wr w' : World} {aq : Option Addr} {nq cq gf cf : Nat} {xs : List Int} (h : SeM w aq nq cq gf cf xs wr) (hb : Below wr.heap.size wr w') : SeM w aq nq cq gf cf xs w' := ⟨h.b6.below hb, h.row.below hb, Below.next h.low hb⟩
theorem SeM.set {w wr : World} {aq : Option Addr} {nq cq gf cf : Nat} {xs : List Int} (h : SeM w aq nq cq gf cf xs wr) (j : Nat) (v : Int) : SeM w aq nq cq gf cf (xs.set j v) (wr.setCell ⟨gf, j, none⟩ (.int .i64 v)) := by
  have := h.row.lt
  exact ⟨h.b6.other j (by omega) _, h.row.set j v, h.low.setCell (by show w.heap.size ≤ gf; omega) _⟩
end Go.Proofs.Ytdfnpknekjgkiaa
