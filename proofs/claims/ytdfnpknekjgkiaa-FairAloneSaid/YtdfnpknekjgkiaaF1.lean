/- Plain laws: parties, fronts, the round robin. -/
import GoSem.Op.String
namespace Go.Proofs.Ytdfnpknekjgkiaa
set_option linter.unusedVariables false
set_option linter.unusedSimpArgs false

abbrev Shares := List (ByteArray × Int)
/-- The order of strings. -/
def slt (s t : ByteArray) : Bool := Op.bytesLess s.toList t.toList
theorem bl_irrefl : ∀ l : List UInt8, Op.bytesLess l l = false
  | [] => rfl
  | a :: l => by
    have h : ¬ a < a := by simp
    simp [Op.bytesLess, bl_irrefl l, h]
theorem bl_trans : ∀ {a b c : List UInt8}, Op.bytesLess a b = true → Op.bytesLess b c = true → Op.bytesLess a c = true
  | [], b, [], h, k => by cases b <;> simp [Op.bytesLess] at h k
  | [], b, z :: c, h, k => rfl
  | x :: a, [], c, h, k => by simp [Op.bytesLess] at h
  | x :: a, y :: b, [], h, k => by simp [Op.bytesLess] at k
  | x :: a, y :: b, z :: c, h, k => by
    simp only [Op.bytesLess, Bool.or_eq_true, Bool.and_eq_true, decide_eq_true_eq, beq_iff_eq] at h k ⊢
    rcases h with h | ⟨rfl, h⟩
    · rcases k with k | ⟨rfl, k⟩
      · exact .inl (UInt8.lt_trans h k)
      · exact .inl h
    · rcases k with k | ⟨rfl, k⟩
      · exact .inl k
      · exact .inr ⟨rfl, bl_trans h k⟩
theorem slt_irrefl (s : ByteArray) : slt s s = false := bl_irrefl _
theorem slt_trans {a b c : ByteArray} (h : slt a b = true) (k : slt b c = true) : slt a c = true := bl_trans h k

/-- The party of a tenant. -/
def partyOf (l : Shares) (t : ByteArray) : Nat := l.findIdx (fun s => decide (s.1 = t))
theorem partyOf_le (l : Shares) (t : ByteArray) : partyOf l t ≤ l.length := List.findIdx_le_length
theorem partyOf_at {l : Shares} {t : ByteArray} (h : partyOf l t < l.length) : (l[partyOf l t]'h).1 = t := by
  have := List.findIdx_getElem (w := h)
  exact of_decide_eq_true this
theorem party_at {l : Shares} {t : ByteArray} {k : Nat} (hk : k < l.length) (h1 : ∀ j (h : j < k) (h2 : j < l.length), l[j].1 ≠ t) (h2 : l[k].1 = t) : partyOf l t = k := by
  unfold partyOf
  rw [List.findIdx_eq hk]
  exact ⟨decide_eq_true h2, fun j hj => decide_eq_false (h1 j hj (by omega))⟩
theorem party_none {l : Shares} {t : ByteArray} (h1 : ∀ j (h : j < l.length), l[j].1 ≠ t) : partyOf l t = l.length := by
  have h2 := partyOf_le l t
  by_cases h : partyOf l t < l.length
  · exact absurd (partyOf_at h) (h1 _ h)
  · omega
/-- Is this request one of the party's that are not done? -/
def live (l : Shares) (ts : List ByteArray) (done : List Bool) (p j : Nat) : Prop := done.getD j true = false ∧ partyOf l (ts.getD j default) = p
instance (l : Shares) (ts : List ByteArray) (done : List Bool) (p j : Nat) : Decidable (live l ts done p j) := by unfold live; infer_instance
/-- The front of a party among the first k requests, or -1. -/
def frontTo (l : Shares) (ts : List ByteArray) (done : List Bool) (p : Nat) : Nat → Int
  | 0 => -1
  | k + 1 => if live l ts done p k ∧ (frontTo l ts done p k < 0 ∨ (p = l.length ∧ slt (ts.getD k default) (ts.getD (frontTo l ts done p k).toNat default) = true)) then k else frontTo l ts done p k
def frontOf (l : Shares) (ts : List ByteArray) (done : List Bool) (p : Nat) : Int := frontTo l ts done p ts.length
/-- What is known of a front. -/
structure IsFront (l : Shares) (ts : List ByteArray) (done : List Bool) (p k : Nat) (b : Int) : Prop where
  none : b < 0 → b = -1 ∧ ∀ j, j < k → ¬ live l ts done p j
  lt : 0 ≤ b → b < k
  live : 0 ≤ b → live l ts done p b.toNat
  least : 0 ≤ b → p = l.length → ∀ j, j < k → Go.Proofs.Ytdfnpknekjgkiaa.live l ts done p j → slt (ts.getD j default) (ts.getD b.toNat default) = false
  first : 0 ≤ b → ∀ j, j < k → Go.Proofs.Ytdfnpknekjgkiaa.live l ts done p j → ts.getD j default = ts.getD b.toNat default → b ≤ j
theorem frontTo_is (l : Shares) (ts : List ByteArray) (done : List Bool) (p : Nat) : ∀ k, IsFront l ts done p k (frontTo l ts done p k)
  | 0 => ⟨fun _ => ⟨rfl, fun j h => absurd h (by omega)⟩, fun h => absurd h (by simp [frontTo]), fun h => absurd h (by simp [frontTo]), fun h => absurd h (by simp [frontTo]), fun h => absurd h (by simp [frontTo])⟩
  | k + 1 => by
    have ih := frontTo_is l ts done p k
    rw [frontTo]
    generalize frontTo l ts done p k = b at *
    by_cases h : live l ts done p k ∧ (b < 0 ∨ (p = l.length ∧ slt (ts.getD k default) (ts.getD b.toNat default) = true))
    · rw [if_pos h]
      obtain ⟨hl, hc⟩ := h
      refine ⟨fun h => absurd h (by omega), fun _ => by omega, fun _ => by simpa using hl, fun _ hp j hj hlj => ?_, fun _ j hj hlj he => ?_⟩
      · simp only [Int.toNat_natCast]
        rcases hc with hc | ⟨_, hc⟩
        · by_cases e : j = k
          · subst e; exact slt_irrefl _
          · exact absurd hlj ((ih.none hc).2 j (by omega))
        · by_cases e : j = k
          · subst e; exact slt_irrefl _
          · by_cases hb : b < 0
            · exact absurd hlj ((ih.none hb).2 j (by omega))
            · have := ih.least (by omega) hp j (by omega) hlj
              cases hs : slt (ts.getD j default) (ts.getD k default) with
              | false => rfl
              | true => rw [slt_trans hs hc] at this; cases this
      · simp only [Int.toNat_natCast] at he
        by_cases e : j = k
        · omega
        · by_cases hb : b < 0
          · exact absurd hlj ((ih.none hb).2 j (by omega))
          · rcases hc with hc | ⟨hp, hc⟩
            · omega
            · have := ih.least (by omega) hp j (by omega) hlj
              rw [he, hc] at this; cases this
    · rw [if_neg h]
      refine ⟨fun hb => ⟨(ih.none hb).1, fun j hj => ?_⟩, fun hb => by have := ih.lt hb; omega, ih.live, fun hb hp j hj hlj => ?_, fun hb j hj hlj he => ?_⟩
      · by_cases e : j = k
        · subst e; exact fun hl => h ⟨hl, .inl hb⟩
        · exact (ih.none hb).2 j (by omega)
      · by_cases e : j = k
        · subst e
          cases hs : slt (ts.getD j default) (ts.getD b.toNat default) with
          | false => rfl
          | true => exact absurd ⟨hlj, .inr ⟨hp, hs⟩⟩ h
        · exact ih.least hb hp j (by omega) hlj
      · by_cases e : j = k
        · have := ih.lt hb; omega
        · exact ih.first hb j (by omega) hlj he
theorem frontOf_is (l : Shares) (ts : List ByteArray) (done : List Bool) (p : Nat) : IsFront l ts done p ts.length (frontOf l ts done p) := frontTo_is l ts done p ts.length
/-- The reference's test. -/
theorem front_ref {l : Shares} {ts : List ByteArray} {done : List Bool} {p k : Nat} (hl : live l ts done p k) (hb : 0 ≤ frontTo l ts done p k) (hp : p < l.length) : slt (ts.getD k default) (ts.getD (frontTo l ts done p k).toNat default) = false := by
  have h := (frontTo_is l ts done p k).live hb
  have e1 := hl.2
  have e2 := h.2
  have a1 := partyOf_at (l := l) (t := ts.getD k default) (by rw [e1]; exact hp)
  have a2 := partyOf_at (l := l) (t := ts.getD (frontTo l ts done p k).toNat default) (by rw [e2]; exact hp)
  simp only [e1] at a1
  simp only [e2] at a2
  rw [← a1, ← a2]
  exact slt_irrefl _
theorem frontTo_ref (l : Shares) (ts : List ByteArray) (done : List Bool) {p : Nat} (hp : p ≤ l.length) (k : Nat) :
    frontTo l ts done p (k + 1) = if live l ts done p k ∧ (frontTo l ts done p k < 0 ∨ slt (ts.getD k default) (ts.getD (frontTo l ts done p k).toNat default) = true) then (k : Int) else frontTo l ts done p k := by
  rw [frontTo]
  by_cases h : live l ts done p k ∧ (frontTo l ts done p k < 0 ∨ (p = l.length ∧ slt (ts.getD k default) (ts.getD (frontTo l ts done p k).toNat default) = true))
  · rw [if_pos h, if_pos ⟨h.1, h.2.imp_right (fun h => h.2)⟩]
  · rw [if_neg h, if_neg]
    rintro ⟨h1, h2⟩
    refine h ⟨h1, ?_⟩
    rcases h2 with h2 | h2
    · exact .inl h2
    · by_cases hpl : p = l.length
      · exact .inr ⟨hpl, h2⟩
      · by_cases hb : frontTo l ts done p k < 0
        · exact .inl hb
        · rw [front_ref h1 (by omega) (by omega)] at h2; cases h2

/-! ### The turns -/
/-- Whose turn it is, and the credits. -/
abbrev St := Nat × List Int
structure Cfg where
  Q : Int
  n : Nat
  ws : List Int
  cs : List Int
/-- The weight of a party: one for the last. -/
def Cfg.wt (c : Cfg) (p : Nat) : Int := if p = c.n then 1 else c.ws.getD p 0
def Cfg.stops (c : Cfg) (fr : List Int) (s : St) : Prop := 0 ≤ fr.getD s.1 (-1) ∧ c.cs.getD (fr.getD s.1 (-1)).toNat 0 ≤ s.2.getD s.1 0
instance (c : Cfg) (fr : List Int) (s : St) : Decidable (c.stops fr s) := by unfold Cfg.stops; infer_instance
def Cfg.clear (c : Cfg) (fr : List Int) (s : St) : List Int := if fr.getD s.1 (-1) < 0 then s.2.set s.1 0 else s.2
def Cfg.nextT (c : Cfg) (s : St) : Nat := (s.1 + 1) % (c.n + 1)
def Cfg.next (c : Cfg) (fr : List Int) (s : St) : St :=
  (c.nextT s, if 0 ≤ fr.getD (c.nextT s) (-1) then (c.clear fr s).set (c.nextT s) ((c.clear fr s).getD (c.nextT s) 0 + c.Q * c.wt (c.nextT s)) else c.clear fr s)
def Cfg.took (c : Cfg) (fr : List Int) (s : St) : St × Nat := ((s.1, s.2.set s.1 (s.2.getD s.1 0 - c.cs.getD (fr.getD s.1 (-1)).toNat 0)), (fr.getD s.1 (-1)).toNat)
def Cfg.run (c : Cfg) (fr : List Int) : Nat → St → St × Nat
  | 0, s => (s, 0)
  | k + 1, s => if c.stops fr s then c.took fr s else c.run fr k (c.next fr s)
/-- What holds while the turns go on. -/
structure Cfg.Ok (c : Cfg) (fr : List Int) : Prop where
  q : 1 ≤ c.Q ∧ c.Q ≤ 1000000
  w : ∀ p, p ≤ c.n → 1 ≤ c.wt p ∧ c.wt p ≤ 1000
  cost : ∀ j, 0 ≤ c.cs.getD j 0 ∧ c.cs.getD j 0 ≤ 1000000
  len : fr.length = c.n + 1
  some : ∃ p, p ≤ c.n ∧ 0 ≤ fr.getD p (-1)
structure Cfg.In (c : Cfg) (s : St) : Prop where
  turn : s.1 ≤ c.n
  len : s.2.length = c.n + 1
  pos : ∀ p, 0 ≤ s.2.getD p 0
  most : ∀ p, p ≠ s.1 → s.2.getD p 0 ≤ 1125899906842624
  here : s.2.getD s.1 0 ≤ 1125899906842624 + 1000000000
theorem getD_set (xs : List Int) (i j : Nat) (v : Int) (h : i < xs.length) : (xs.set i v).getD j 0 = if i = j then v else xs.getD j 0 := by
  simp only [List.getD_eq_getElem?_getD, List.getElem?_set]
  by_cases e : i = j
  · subst e; simp [h]
  · simp [e]
theorem Cfg.nextT_le (c : Cfg) (s : St) : c.nextT s ≤ c.n := by
  have := Nat.mod_lt (s.1 + 1) (show 0 < c.n + 1 by omega)
  unfold Cfg.nextT; omega
theorem Cfg.clear_len (c : Cfg) (fr : List Int) (s : St) : (c.clear fr s).length = s.2.length := by unfold Cfg.clear; split <;> simp
theorem Cfg.clear_at (c : Cfg) (fr : List Int) {s : St} (hs : c.In s) (p : Nat) : (c.clear fr s).getD p 0 = if fr.getD s.1 (-1) < 0 ∧ s.1 = p then 0 else s.2.getD p 0 := by
  unfold Cfg.clear
  by_cases h : fr.getD s.1 (-1) < 0
  · rw [if_pos h, getD_set _ _ _ _ (by rw [hs.len]; have := hs.turn; omega)]
    by_cases e : s.1 = p
    · rw [if_pos e, if_pos ⟨h, e⟩]
    · rw [if_neg e, if_neg (fun h => e h.2)]
  · rw [if_neg h, if_neg (fun k => h k.1)]
theorem mul_pos_le {q w : Int} (hq : 1 ≤ q ∧ q ≤ 1000000) (hw : 1 ≤ w ∧ w ≤ 1000) : 1 ≤ q * w ∧ q * w ≤ 1000000000 := by
  constructor
  · have := Int.mul_le_mul hq.1 hw.1 (by omega) (by omega); omega
  · have := Int.mul_le_mul hq.2 hw.2 (by omega) (by omega); omega
theorem Cfg.clear_most {c : Cfg} {fr : List Int} (ok : c.Ok fr) {s : St} (hs : c.In s) (hst : ¬ c.stops fr s) (p : Nat) : 0 ≤ (c.clear fr s).getD p 0 ∧ (c.clear fr s).getD p 0 ≤ 1125899906842624 := by
  rw [c.clear_at fr hs]
  split
  · omega
  · rename_i h
    refine ⟨hs.pos p, ?_⟩
    by_cases e : p = s.1
    · subst e
      have hc := ok.cost (fr.getD s.1 (-1)).toNat
      unfold Cfg.stops at hst
      have h2 : 0 ≤ fr.getD s.1 (-1) := by
        rcases Int.lt_or_le (fr.getD s.1 (-1)) 0 with h1 | h1
        · exact absurd ⟨h1, rfl⟩ h
        · exact h1
      have : ¬ c.cs.getD (fr.getD s.1 (-1)).toNat 0 ≤ s.2.getD s.1 0 := fun h3 => hst ⟨h2, h3⟩
      omega
    · exact hs.most p e
theorem Cfg.next_in {c : Cfg} {fr : List Int} (ok : c.Ok fr) {s : St} (hs : c.In s) (hst : ¬ c.stops fr s) : c.In (c.next fr s) := by
  have hT := c.nextT_le s
  have hm := fun p => Cfg.clear_most ok hs hst p
  have hl : (c.clear fr s).length = c.n + 1 := by rw [c.clear_len, hs.len]
  have hw := mul_pos_le ok.q (ok.w _ hT)
  unfold Cfg.next
  generalize c.nextT s = t at *
  generalize c.clear fr s = cr at *
  by_cases h : 0 ≤ fr.getD t (-1)
  · simp only [if_pos h]
    refine ⟨hT, by simpa using hl, fun p => ?_, fun p hp => ?_, ?_⟩
    · rw [getD_set _ _ _ _ (by omega)]
      have := hm p; have := hm t
      split <;> omega
    · rw [getD_set _ _ _ _ (by omega), if_neg (Ne.symm hp)]; exact (hm p).2
    · rw [getD_set _ _ _ _ (by omega), if_pos rfl]; have := hm t; omega
  · simp only [if_neg h]
    exact ⟨hT, hl, fun p => (hm p).1, fun p _ => (hm p).2, by show cr.getD t 0 ≤ _; have := hm t; omega⟩
/-- The steps to the party p0. -/
def dist (n p0 t : Nat) : Nat := if t < p0 then p0 - t else p0 + (n + 1) - t
/-- What is left. -/
def Cfg.meas (c : Cfg) (fr : List Int) (s : St) : Nat :=
  let p0 := fr.findIdx (fun i => decide (0 ≤ i))
  if s.1 = p0 ∧ c.stops fr s then 0 else (c.cs.getD (fr.getD p0 (-1)).toNat 0 - s.2.getD p0 0).toNat * (c.n + 1) + dist c.n p0 s.1
theorem Cfg.p0 {c : Cfg} {fr : List Int} (ok : c.Ok fr) : fr.findIdx (fun i => decide (0 ≤ i)) ≤ c.n ∧ 0 ≤ fr.getD (fr.findIdx (fun i => decide (0 ≤ i))) (-1) := by
  obtain ⟨p, hp, h⟩ := ok.some
  have hl := ok.len
  have hlt : fr.findIdx (fun i => decide (0 ≤ i)) < fr.length := by
    rw [List.findIdx_lt_length]
    refine ⟨fr[p]'(by omega), List.getElem_mem _, ?_⟩
    simpa [show p < fr.length by omega] using h
  refine ⟨by omega, ?_⟩
  have := List.findIdx_getElem (w := hlt)
  simpa [hlt] using this
theorem Cfg.meas_next {c : Cfg} {fr : List Int} (ok : c.Ok fr) {s : St} (hs : c.In s) (hst : ¬ c.stops fr s) : c.meas fr (c.next fr s) < c.meas fr s := by
  obtain ⟨hp, hf⟩ := Cfg.p0 ok
  have hm := fun p => Cfg.clear_at c fr hs p
  have hcp := ok.cost (fr.getD (fr.findIdx (fun i => decide (0 ≤ i))) (-1)).toNat
  have hsp := hs.pos
  have htn := hs.turn
  have hl : (c.clear fr s).length = c.n + 1 := by rw [c.clear_len, hs.len]
  have ok' := ok.w
  unfold Cfg.meas
  generalize fr.findIdx (fun i => decide (0 ≤ i)) = p0 at *
  simp only
  rw [if_neg (c := s.1 = p0 ∧ c.stops fr s) (fun h => hst h.2)]
  have hd1 : 1 ≤ dist c.n p0 s.1 := by unfold dist; split <;> omega
  by_cases hz : (c.next fr s).1 = p0 ∧ c.stops fr (c.next fr s)
  · rw [if_pos hz]; omega
  rw [if_neg hz]
  have hT : (c.next fr s).1 = c.nextT s := rfl
  have hTe : c.nextT s = if s.1 = c.n then 0 else s.1 + 1 := by
    unfold Cfg.nextT
    by_cases e : s.1 = c.n
    · rw [if_pos e, e, Nat.mod_self]
    · rw [if_neg e, Nat.mod_eq_of_lt (by omega)]
  have hck : (c.clear fr s).getD p0 0 = s.2.getD p0 0 := by
    rw [hm, if_neg]
    rintro ⟨h1, rfl⟩
    omega
  by_cases hA : c.nextT s = p0
  · have hw := mul_pos_le ok.q (ok' p0 hp)
    have h2 : (c.next fr s).2.getD p0 0 = s.2.getD p0 0 + c.Q * c.wt p0 := by
      unfold Cfg.next
      rw [hA]
      simp only [if_pos hf]
      rw [getD_set _ _ _ _ (by omega), if_pos rfl, hck]
    have hns : ¬ c.stops fr (c.next fr s) := fun h => hz ⟨by rw [hT, hA], h⟩
    unfold Cfg.stops at hns
    rw [hT, hA, h2] at hns
    have hlt : ¬ c.cs.getD (fr.getD p0 (-1)).toNat 0 ≤ s.2.getD p0 0 + c.Q * c.wt p0 := fun h => hns ⟨hf, h⟩
    rw [hT, hA, h2]
    have hd : dist c.n p0 s.1 = 1 := by
      unfold dist
      rw [← hA, hTe]
      split <;> split <;> omega
    have hd0 : dist c.n p0 p0 = c.n + 1 := by unfold dist; split <;> omega
    rw [hd, hd0]
    generalize c.cs.getD (fr.getD p0 (-1)).toNat 0 = C at *
    generalize s.2.getD p0 0 = k at *
    generalize c.Q * c.wt p0 = g at *
    have h3 : (C - (k + g)).toNat + 1 ≤ (C - k).toNat := by omega
    have h4 := Nat.mul_le_mul_right (c.n + 1) h3
    rw [Nat.add_mul, Nat.one_mul] at h4
    omega
  · have h2 : (c.next fr s).2.getD p0 0 = s.2.getD p0 0 := by
      unfold Cfg.next
      by_cases h : 0 ≤ fr.getD (c.nextT s) (-1)
      · simp only [if_pos h]
        rw [getD_set _ _ _ _ (by have := c.nextT_le s; omega), if_neg hA, hck]
      · simp only [if_neg h]; exact hck
    rw [h2, hT]
    have : dist c.n p0 (c.nextT s) < dist c.n p0 s.1 := by
      unfold dist
      rw [hTe] at hA ⊢
      by_cases e : s.1 = c.n
      · simp only [if_pos e] at hA ⊢
        split <;> split <;> omega
      · simp only [if_neg e] at hA ⊢
        split <;> split <;> omega
    omega
/-- The whole of the turns. -/
def Cfg.go (c : Cfg) (fr : List Int) (s : St) : St × Nat := c.run fr (c.meas fr s + 1) s
theorem Cfg.run_more {c : Cfg} {fr : List Int} (ok : c.Ok fr) : ∀ (k : Nat) (s : St), c.In s → c.meas fr s < k → ∀ m, c.meas fr s < m → c.run fr k s = c.run fr m s
  | 0, s, hs, h, m, hm => absurd h (by omega)
  | k + 1, s, hs, h, m, hm => by
    obtain ⟨m, rfl⟩ : ∃ q, m = q + 1 := ⟨m - 1, by omega⟩
    rw [Cfg.run, Cfg.run]
    by_cases hst : c.stops fr s
    · rw [if_pos hst, if_pos hst]
    · rw [if_neg hst, if_neg hst]
      have := Cfg.meas_next ok hs hst
      exact Cfg.run_more ok k _ (Cfg.next_in ok hs hst) (by omega) m (by omega)
theorem Cfg.go_stops {c : Cfg} {fr : List Int} {s : St} (h : c.stops fr s) : c.go fr s = c.took fr s := by
  unfold Cfg.go; rw [Cfg.run, if_pos h]
theorem Cfg.go_next {c : Cfg} {fr : List Int} (ok : c.Ok fr) {s : St} (hs : c.In s) (h : ¬ c.stops fr s) : c.go fr s = c.go fr (c.next fr s) := by
  unfold Cfg.go
  rw [Cfg.run, if_neg h]
  have := Cfg.meas_next ok hs h
  exact Cfg.run_more ok _ _ (Cfg.next_in ok hs h) (by omega) _ (by omega)
/-- Induction over the turns. -/
theorem Cfg.go_ind {c : Cfg} {fr : List Int} (ok : c.Ok fr) {J : St → Prop} (hn : ∀ s, c.In s → J s → ¬ c.stops fr s → J (c.next fr s)) : ∀ (k : Nat) (s : St), c.meas fr s < k → c.In s → J s → ∃ s', c.In s' ∧ J s' ∧ c.stops fr s' ∧ c.go fr s = c.took fr s'
  | 0, s, h, _, _ => absurd h (by omega)
  | k + 1, s, h, hs, hj => by
    by_cases hst : c.stops fr s
    · exact ⟨s, hs, hj, hst, Cfg.go_stops hst⟩
    · have := Cfg.meas_next ok hs hst
      obtain ⟨s', a, b, d, e⟩ := Cfg.go_ind ok hn k _ (by omega) (Cfg.next_in ok hs hst) (hn s hs hj hst)
      exact ⟨s', a, b, d, (Cfg.go_next ok hs hst).trans e⟩
end Go.Proofs.Ytdfnpknekjgkiaa
