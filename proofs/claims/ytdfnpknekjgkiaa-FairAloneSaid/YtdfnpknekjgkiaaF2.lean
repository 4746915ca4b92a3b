/- Plain laws: the whole order. -/
import Derived.Test.YtdfnpknekjgkiaaF1
namespace Go.Proofs.Ytdfnpknekjgkiaa
set_option linter.unusedVariables false
set_option linter.unusedSimpArgs false

def frontsOf (l : Shares) (ts : List ByteArray) (done : List Bool) : List Int := (List.range (l.length + 1)).map (frontOf l ts done)
theorem frontsOf_len (l : Shares) (ts : List ByteArray) (done : List Bool) : (frontsOf l ts done).length = l.length + 1 := by simp [frontsOf]
theorem frontsOf_at (l : Shares) (ts : List ByteArray) (done : List Bool) {p : Nat} (hp : p ≤ l.length) : (frontsOf l ts done).getD p (-1) = frontOf l ts done p := by
  simp [frontsOf, show p < l.length + 1 by omega]
theorem live_lt {l : Shares} {ts : List ByteArray} {done : List Bool} {p j : Nat} (h : live l ts done p j) : j < done.length := by
  have h := h.1
  rcases Nat.lt_or_ge j done.length with h1 | h1
  · exact h1
  · rw [List.getD_eq_getElem?_getD, List.getElem?_eq_none h1] at h; cases h
theorem front_some {l : Shares} {ts : List ByteArray} {done : List Bool} {p j : Nat} (hd : done.length = ts.length) (h : live l ts done p j) : 0 ≤ frontOf l ts done p := by
  have hi := frontOf_is l ts done p
  rcases Int.lt_or_le (frontOf l ts done p) 0 with h1 | h1
  · exact absurd h ((hi.none h1).2 j (by have := live_lt h; omega))
  · exact h1
/-- The configuration of shares. -/
def cfgOf (l : Shares) (cs : List Int) (Q : Int) : Cfg := ⟨Q, l.length, l.map (fun s => s.2), cs⟩
structure Good (l : Shares) (ts : List ByteArray) (cs : List Int) (Q : Int) : Prop where
  q : 1 ≤ Q ∧ Q ≤ 1000000
  len : cs.length = ts.length
  cost : ∀ x ∈ cs, 0 ≤ x ∧ x ≤ 1000000
  w : ∀ s ∈ l, 1 ≤ s.2 ∧ s.2 ≤ 1000
theorem wt_last (l : Shares) (cs : List Int) (Q : Int) : (cfgOf l cs Q).wt l.length = 1 := by simp [Cfg.wt, cfgOf]
theorem wt_at (l : Shares) (cs : List Int) (Q : Int) {p : Nat} (hp : p < l.length) : (cfgOf l cs Q).wt p = l[p].2 := by
  unfold Cfg.wt cfgOf
  simp only
  rw [if_neg (by omega)]
  simp [hp]
theorem cfg_ok {l : Shares} {ts : List ByteArray} {cs : List Int} {Q : Int} (g : Good l ts cs Q) {done : List Bool} (hd : done.length = ts.length) {j : Nat} (hj : done.getD j true = false) : (cfgOf l cs Q).Ok (frontsOf l ts done) := by
  refine ⟨g.q, fun p hp => ?_, fun j => ?_, frontsOf_len _ _ _, partyOf l (ts.getD j default), partyOf_le _ _, ?_⟩
  · by_cases e : p = l.length
    · subst e; rw [wt_last]; omega
    · have hp : p ≤ l.length := hp
      rw [wt_at l cs Q (by omega)]
      exact g.w _ (List.getElem_mem _)
  · show 0 ≤ cs.getD j 0 ∧ cs.getD j 0 ≤ 1000000
    by_cases h : j < cs.length
    · have := g.cost _ (List.getElem_mem h)
      simpa [h] using this
    · simp [h]
  · rw [frontsOf_at _ _ _ (partyOf_le _ _)]
    exact front_some hd ⟨hj, rfl⟩
/-- Where Order stands. -/
structure Ord where
  s : St
  done : List Bool
  out : List Nat
def ordStep (l : Shares) (ts : List ByteArray) (cs : List Int) (Q : Int) (o : Ord) : Ord :=
  ⟨((cfgOf l cs Q).go (frontsOf l ts o.done) o.s).1, o.done.set ((cfgOf l cs Q).go (frontsOf l ts o.done) o.s).2 true, o.out ++ [((cfgOf l cs Q).go (frontsOf l ts o.done) o.s).2]⟩
def ordN (l : Shares) (ts : List ByteArray) (cs : List Int) (Q : Int) : Nat → Ord
  | 0 => ⟨(l.length, List.replicate (l.length + 1) 0), List.replicate ts.length false, []⟩
  | k + 1 => ordStep l ts cs Q (ordN l ts cs Q k)
/-- The whole order. -/
def orderOf (l : Shares) (ts : List ByteArray) (cs : List Int) (Q : Int) : List Nat := (ordN l ts cs Q ts.length).out
/-- What a party has got. -/
def got (l : Shares) (ts : List ByteArray) (cs : List Int) (p : Nat) (out : List Nat) : Int := ((out.filter (fun j => decide (partyOf l (ts.getD j default) = p))).map (fun j => cs.getD j 0)).sum
theorem got_snoc (l : Shares) (ts : List ByteArray) (cs : List Int) (p : Nat) (out : List Nat) (j : Nat) : got l ts cs p (out ++ [j]) = got l ts cs p out + if partyOf l (ts.getD j default) = p then cs.getD j 0 else 0 := by
  unfold got
  rw [List.filter_append, List.map_append, List.sum_append]
  by_cases h : partyOf l (ts.getD j default) = p
  · rw [if_pos h, List.filter_cons_of_pos (by simpa using h)]; simp
  · rw [if_neg h, List.filter_cons_of_neg (by simpa using h)]; simp
/-- The greatest cost. -/
def mostOf (cs : List Int) : Int := cs.foldl max 0
theorem foldl_max_ge : ∀ (cs : List Int) (a : Int), a ≤ cs.foldl max a
  | [], a => Int.le_refl _
  | x :: cs, a => by
    have := foldl_max_ge cs (max a x)
    simp only [List.foldl_cons]; omega
theorem foldl_max_mem : ∀ (cs : List Int) (a : Int), ∀ x ∈ cs, x ≤ cs.foldl max a
  | y :: cs, a, x, h => by
    simp only [List.foldl_cons]
    rcases List.mem_cons.1 h with rfl | h
    · have := foldl_max_ge cs (max a x); omega
    · exact foldl_max_mem cs _ x h
theorem mostOf_at (cs : List Int) (j : Nat) : cs.getD j 0 ≤ mostOf cs := by
  by_cases h : j < cs.length
  · have := foldl_max_mem cs 0 _ (List.getElem_mem h)
    unfold mostOf
    simpa [h] using this
  · unfold mostOf
    simpa [h] using foldl_max_ge cs 0
/-- What the lag rests on, for the parties that wait. -/
def Fairly (l : Shares) (ts : List ByteArray) (cs : List Int) (Q : Int) (fr : List Int) (out : List Nat) (s : St) : Prop :=
  ∃ R : Int, ∀ p, p ≤ l.length → 0 ≤ fr.getD p (-1) → got l ts cs p out + s.2.getD p 0 = Q * (cfgOf l cs Q).wt p * (R + if p ≤ s.1 then 1 else 0) ∧ (p ≠ s.1 → s.2.getD p 0 ≤ mostOf cs) ∧ s.2.getD p 0 ≤ mostOf cs + Q * (cfgOf l cs Q).wt p
theorem fairly_next {l : Shares} {ts : List ByteArray} {cs : List Int} {Q : Int} {fr : List Int} {out : List Nat} (ok : (cfgOf l cs Q).Ok fr) {s : St} (hs : (cfgOf l cs Q).In s) (h : Fairly l ts cs Q fr out s) (hst : ¬ (cfgOf l cs Q).stops fr s) :
    Fairly l ts cs Q fr out ((cfgOf l cs Q).next fr s) := by
  obtain ⟨R, h⟩ := h
  have hT := (cfgOf l cs Q).nextT_le s
  have htn := hs.turn
  have hcn : (cfgOf l cs Q).n = l.length := rfl
  have hl : ((cfgOf l cs Q).clear fr s).length = l.length + 1 := by rw [Cfg.clear_len, hs.len, hcn]
  have hTe : (cfgOf l cs Q).nextT s = if s.1 = l.length then 0 else s.1 + 1 := by
    unfold Cfg.nextT
    rw [hcn]
    by_cases e : s.1 = l.length
    · rw [if_pos e, e, Nat.mod_self]
    · rw [if_neg e, Nat.mod_eq_of_lt (by omega)]
  have hck : ∀ p, 0 ≤ fr.getD p (-1) → ((cfgOf l cs Q).clear fr s).getD p 0 = s.2.getD p 0 := fun p hp => by
    rw [Cfg.clear_at _ fr hs, if_neg]
    rintro ⟨h1, rfl⟩
    omega
  have hlow : ∀ p, p ≤ l.length → 0 ≤ fr.getD p (-1) → s.2.getD p 0 ≤ mostOf cs := fun p hp hf => by
    by_cases e : p = s.1
    · subst e
      have : ¬ cs.getD (fr.getD s.1 (-1)).toNat 0 ≤ s.2.getD s.1 0 := fun h => hst ⟨hf, h⟩
      have := mostOf_at cs (fr.getD s.1 (-1)).toNat
      omega
    · exact (h p hp hf).2.1 e
  have hwp := fun p (hp : p ≤ l.length) => mul_pos_le ok.q (ok.w p hp)
  refine ⟨if s.1 = l.length then R + 1 else R, fun p hp hf => ?_⟩
  obtain ⟨h1, h2, h3⟩ := h p hp hf
  have h4 := hlow p hp hf
  have hw := hwp p hp
  have hqq : (cfgOf l cs Q).Q = Q := rfl
  rw [hqq] at hw
  have hturn : ((cfgOf l cs Q).next fr s).1 = (cfgOf l cs Q).nextT s := rfl
  have hcred : ((cfgOf l cs Q).next fr s).2.getD p 0 = if p = (cfgOf l cs Q).nextT s then s.2.getD p 0 + Q * (cfgOf l cs Q).wt p else s.2.getD p 0 := by
    unfold Cfg.next
    by_cases hg : 0 ≤ fr.getD ((cfgOf l cs Q).nextT s) (-1)
    · simp only [if_pos hg]
      rw [getD_set _ _ _ _ (by omega)]
      by_cases e : p = (cfgOf l cs Q).nextT s
      · rw [if_pos e.symm, if_pos e, hck _ hg, ← e, hqq]
      · rw [if_neg (Ne.symm e), if_neg e, hck p hf]
    · simp only [if_neg hg]
      rw [if_neg (by rintro rfl; exact hg hf), hck p hf]
  rw [hturn, hcred]
  have hR : (if s.1 = l.length then R + 1 else R) + (if p ≤ (cfgOf l cs Q).nextT s then 1 else 0) = R + (if p ≤ s.1 then 1 else 0) + (if p = (cfgOf l cs Q).nextT s then 1 else 0) := by
    rw [hTe]
    by_cases e : s.1 = l.length
    · simp only [if_pos e]
      rw [if_pos (show p ≤ s.1 by omega)]
      by_cases e2 : p = 0
      · subst e2; simp
      · rw [if_neg (by omega), if_neg e2]
    · simp only [if_neg e]
      by_cases e2 : p = s.1 + 1
      · subst e2; rw [if_pos (Nat.le_refl _), if_neg (by omega), if_pos rfl]; omega
      · rw [if_neg e2]
        by_cases e3 : p ≤ s.1
        · rw [if_pos (by omega), if_pos e3]; omega
        · rw [if_neg (by omega), if_neg e3]; omega
  rw [hR]
  generalize Q * (cfgOf l cs Q).wt p = g at *
  by_cases e : p = (cfgOf l cs Q).nextT s
  · rw [if_pos e, if_pos e]
    refine ⟨?_, fun h => absurd e h, by omega⟩
    rw [Int.mul_add, ← h1]; omega
  · rw [if_neg e, if_neg e]
    refine ⟨by rw [Int.add_zero]; exact h1, fun _ => h4, by omega⟩
/-- What holds of Order. -/
structure OrdIn (l : Shares) (ts : List ByteArray) (cs : List Int) (Q : Int) (k : Nat) (o : Ord) : Prop where
  st : (cfgOf l cs Q).In o.s
  dlen : o.done.length = ts.length
  olen : o.out.length = k
  done : ∀ j, j < ts.length → (o.done.getD j true = true ↔ j ∈ o.out)
  nodup : o.out.Nodup
  lt : ∀ j ∈ o.out, j < ts.length
  first : ∀ a, (ha : a < o.out.length) → ∀ j, j < o.out[a] → ts.getD j default = ts.getD o.out[a] default → j ∈ o.out.take a
  fairly : Fairly l ts cs Q (frontsOf l ts o.done) o.out o.s
theorem nodup_sub_len : ∀ {xs ys : List Nat}, xs.Nodup → (∀ j ∈ xs, j ∈ ys) → xs.length ≤ ys.length
  | [], ys, _, _ => Nat.zero_le _
  | x :: xs, ys, h1, h2 => by
    have hx := h2 x (List.mem_cons_self)
    rw [List.nodup_cons] at h1
    have ih := nodup_sub_len (xs := xs) (ys := ys.erase x) h1.2 (fun j hj => (List.mem_erase_of_ne (by rintro rfl; exact h1.1 hj)).2 (h2 j (List.mem_cons_of_mem _ hj)))
    rw [List.length_erase_of_mem hx] at ih
    have := List.length_pos_of_mem hx
    simp only [List.length_cons]; omega
theorem OrdIn.some {l : Shares} {ts : List ByteArray} {cs : List Int} {Q : Int} {k : Nat} {o : Ord} (h : OrdIn l ts cs Q k o) (hk : k < ts.length) : ∃ j, j < ts.length ∧ o.done.getD j true = false := by
  apply Classical.byContradiction
  intro hn
  have hall : ∀ j, j < ts.length → j ∈ o.out := fun j hj => by
    rw [← h.done j hj]
    cases hv : o.done.getD j true with
    | true => rfl
    | false => exact absurd ⟨j, hj, hv⟩ hn
  have h1 : (List.range ts.length).Nodup := List.nodup_range
  have h3 := nodup_sub_len (ys := o.out) h1 (fun j hj => hall j (List.mem_range.1 hj))
  rw [h.olen] at h3
  simp at h3
  omega
theorem ordN_in {l : Shares} {ts : List ByteArray} {cs : List Int} {Q : Int} (g : Good l ts cs Q) : ∀ k, k ≤ ts.length → OrdIn l ts cs Q k (ordN l ts cs Q k)
  | 0, _ => by
    refine ⟨⟨Nat.le_refl _, by simp [ordN, cfgOf], fun p => ?_, fun p _ => ?_, ?_⟩, by simp [ordN], rfl, fun j hj => by simp [ordN, hj], List.nodup_nil, (by rintro _ ⟨⟩), fun a ha => absurd ha (by simp [ordN]), -1, fun p hp hf => ?_⟩
    · by_cases h : p < l.length + 1 <;> simp [ordN, h]
    · by_cases h : p < l.length + 1 <;> simp [ordN, h]
    · simp [ordN]
    · have hz : (List.replicate (l.length + 1) (0 : Int)).getD p 0 = 0 := by by_cases h : p < l.length + 1 <;> simp [h]
      have hm : (0 : Int) ≤ mostOf cs := foldl_max_ge cs 0
      have hw : 0 ≤ Q * (cfgOf l cs Q).wt p := by
        by_cases e : p = l.length
        · subst e; rw [wt_last]; have := g.q; omega
        · rw [wt_at l cs Q (by omega)]
          have := g.w _ (List.getElem_mem (show p < l.length by omega))
          exact Int.mul_nonneg (by have := g.q; omega) (by omega)
      show got l ts cs p [] + (List.replicate (l.length + 1) (0 : Int)).getD p 0 = Q * (cfgOf l cs Q).wt p * (-1 + if p ≤ l.length then 1 else 0) ∧ (p ≠ l.length → (List.replicate (l.length + 1) (0 : Int)).getD p 0 ≤ mostOf cs) ∧ (List.replicate (l.length + 1) (0 : Int)).getD p 0 ≤ mostOf cs + Q * (cfgOf l cs Q).wt p
      rw [hz, if_pos hp]
      exact ⟨by simp [got], fun _ => hm, by omega⟩
  | k + 1, hk => by
    have ih := ordN_in g k (by omega)
    rw [ordN]
    generalize ordN l ts cs Q k = o at *
    obtain ⟨j0, hj0, hlive⟩ := ih.some (by omega)
    have ok := cfg_ok g ih.dlen hlive
    obtain ⟨s', hs', hJ, hst, hgo⟩ := Cfg.go_ind ok (J := Fairly l ts cs Q (frontsOf l ts o.done) o.out) (fun s h1 h2 h3 => fairly_next ok h1 h2 h3) _ o.s (Nat.lt_succ_self _) ih.st ih.fairly
    obtain ⟨hf0, hcost⟩ := hst
    have hp := hs'.turn
    have hcn : (cfgOf l cs Q).n = l.length := rfl
    rw [hcn] at hp
    have hfa := frontsOf_at l ts o.done hp
    have hfr := frontOf_is l ts o.done s'.1
    unfold ordStep
    rw [hgo]
    unfold Cfg.took
    simp only
    rw [hfa] at hf0 hcost ⊢
    have hlv := hfr.live hf0
    have hlt := hfr.lt hf0
    have hfirst := hfr.first hf0
    obtain ⟨i, hi⟩ : ∃ i : Nat, frontOf l ts o.done s'.1 = i := ⟨_, (Int.toNat_of_nonneg hf0).symm⟩
    rw [hi] at hlv hlt hfirst hcost ⊢
    simp only [Int.toNat_natCast] at hlv hcost hfirst ⊢
    have hni : i ∉ o.out := fun h => by
      rw [← ih.done i (by omega), hlv.1] at h; cases h
    have hce : (cfgOf l cs Q).cs.getD i 0 = cs.getD i 0 := rfl
    rw [hce] at hcost ⊢
    have hc0 : 0 ≤ cs.getD i 0 := (ok.cost i).1
    have hlen2 := hs'.len
    rw [hcn] at hlen2
    have hset : ∀ p, (s'.2.set s'.1 (s'.2.getD s'.1 0 - cs.getD i 0)).getD p 0 = if s'.1 = p then s'.2.getD s'.1 0 - cs.getD i 0 else s'.2.getD p 0 := fun p => getD_set _ _ _ _ (by omega)
    refine ⟨⟨hp, by rw [hcn]; simpa using hlen2, fun p => ?_, fun p hne => ?_, ?_⟩, by simpa using ih.dlen, by simp [ih.olen], fun j hj => ?_, ?_, fun j hj => ?_, fun a ha j hj he => ?_, ?_⟩
    · simp only [hset]; have := hs'.pos p; split <;> omega
    · simp only [hset]; rw [if_neg (Ne.symm hne)]; exact hs'.most p hne
    · simp only [hset, if_pos]; have := hs'.here; omega
    · have hdl := ih.dlen
      by_cases e : i = j
      · subst e
        simp [show i < o.done.length by omega]
      · have := ih.done j hj
        simp only [List.mem_append, List.mem_singleton]
        rw [show (o.done.set i true).getD j true = o.done.getD j true from by simp only [List.getD_eq_getElem?_getD, List.getElem?_set, if_neg e], this]
        constructor
        · exact .inl
        · rintro (h | h)
          · exact h
          · exact absurd h.symm e
    · rw [List.nodup_append]
      exact ⟨ih.nodup, by simp, by rintro a ha b hb rfl; simp at hb; subst hb; exact hni ha⟩
    · rcases List.mem_append.1 hj with hj | hj
      · exact ih.lt j hj
      · simp at hj; omega
    · rw [List.length_append] at ha
      simp only [List.length_singleton] at ha
      by_cases e : a < o.out.length
      · rw [List.getElem_append_left e] at hj he
        rw [List.take_append_of_le_length (by omega)]
        exact ih.first a e j hj he
      · obtain rfl : a = o.out.length := by omega
        simp only [List.getElem_append_right (Nat.le_refl _), Nat.sub_self, List.getElem_cons_zero] at hj he
        rw [List.take_append_of_le_length (Nat.le_refl _), List.take_length]
        rw [← ih.done j (by omega)]
        cases hv : o.done.getD j true with
        | true => rfl
        | false =>
          have hll : live l ts o.done s'.1 j := ⟨hv, by rw [he]; exact hlv.2⟩
          have := hfirst j (by omega) hll he
          omega
    · obtain ⟨R, hJ⟩ := hJ
      refine ⟨R, fun p hpl hf => ?_⟩
      have hold : 0 ≤ (frontsOf l ts o.done).getD p (-1) := by
        rw [frontsOf_at _ _ _ hpl] at hf ⊢
        have h1 := (frontOf_is l ts (o.done.set i true) p).live hf
        refine front_some ih.dlen (j := (frontOf l ts (o.done.set i true) p).toNat) ⟨?_, h1.2⟩
        have h2 := h1.1
        simp only [List.getD_eq_getElem?_getD, List.getElem?_set] at h2 ⊢
        by_cases e : i = (frontOf l ts (o.done.set i true) p).toNat
        · rw [if_pos e] at h2
          split at h2 <;> simp at h2
        · rw [if_neg e] at h2; exact h2
      obtain ⟨h1, h2, h3⟩ := hJ p hpl hold
      rw [hset, got_snoc, hlv.2]
      by_cases e : s'.1 = p
      · subst e
        rw [if_pos rfl, if_pos rfl]
        exact ⟨by rw [← h1]; omega, fun h => absurd rfl h, by omega⟩
      · rw [if_neg e, if_neg e, Int.add_zero]
        exact ⟨h1, h2, h3⟩
theorem ordN_take {l : Shares} {ts : List ByteArray} {cs : List Int} {Q : Int} (g : Good l ts cs Q) : ∀ d k, k + d ≤ ts.length → (ordN l ts cs Q (k + d)).out.take k = (ordN l ts cs Q k).out
  | 0, k, h => by
    have := (ordN_in g k h).olen
    rw [Nat.add_zero, List.take_of_length_le (by omega)]
  | d + 1, k, h => by
    have := (ordN_in g (k + d) (by omega)).olen
    show (ordStep l ts cs Q (ordN l ts cs Q (k + d))).out.take k = _
    unfold ordStep
    simp only
    rw [List.take_append_of_le_length (by omega)]
    exact ordN_take g d k (by omega)
theorem nodup_inj : ∀ {xs : List Nat}, xs.Nodup → ∀ {a b : Nat} (ha : a < xs.length) (hb : b < xs.length), xs[a] = xs[b] → a = b
  | x :: xs, h, 0, 0, _, _, _ => rfl
  | x :: xs, h, 0, b + 1, _, hb, e => by
    rw [List.nodup_cons] at h
    simp only [List.getElem_cons_zero, List.getElem_cons_succ] at e
    exact absurd (e ▸ List.getElem_mem _) h.1
  | x :: xs, h, a + 1, 0, ha, _, e => by
    rw [List.nodup_cons] at h
    simp only [List.getElem_cons_zero, List.getElem_cons_succ] at e
    exact absurd (e ▸ List.getElem_mem _) h.1
  | x :: xs, h, a + 1, b + 1, ha, hb, e => by
    rw [List.nodup_cons] at h
    simp only [List.getElem_cons_succ] at e
    rw [nodup_inj h.2 (by simpa using ha) (by simpa using hb) e]
/-- The lag. -/
theorem lag_holds {l : Shares} {ts : List ByteArray} {cs : List Int} {Q : Int} (g : Good l ts cs Q) {n : Nat} (hn : n ≤ ts.length) {i k : Nat} (hi : i < l.length) (hk : k < i) (hw : l[i].2 = l[k].2)
    (h1 : ∃ a, n ≤ a ∧ ∃ ha : a < (orderOf l ts cs Q).length, partyOf l (ts.getD (orderOf l ts cs Q)[a] default) = i) (h2 : ∃ a, n ≤ a ∧ ∃ ha : a < (orderOf l ts cs Q).length, partyOf l (ts.getD (orderOf l ts cs Q)[a] default) = k) :
    got l ts cs i ((orderOf l ts cs Q).take n) - got l ts cs k ((orderOf l ts cs Q).take n) ≤ Q * l[i].2 + mostOf cs ∧ got l ts cs k ((orderOf l ts cs Q).take n) - got l ts cs i ((orderOf l ts cs Q).take n) ≤ Q * l[i].2 + mostOf cs := by
  have ho := ordN_in g n hn
  have hall := ordN_in g ts.length (Nat.le_refl _)
  have htake : (orderOf l ts cs Q).take n = (ordN l ts cs Q n).out := by
    have := ordN_take g (ts.length - n) n (by omega)
    rw [show n + (ts.length - n) = ts.length by omega] at this
    exact this
  have hfr : ∀ p, (∃ a, n ≤ a ∧ ∃ ha : a < (orderOf l ts cs Q).length, partyOf l (ts.getD (orderOf l ts cs Q)[a] default) = p) → 0 ≤ frontOf l ts (ordN l ts cs Q n).done p := fun p ⟨a, hna, ha, he⟩ => by
    refine front_some ho.dlen (j := (orderOf l ts cs Q)[a]) ⟨?_, he⟩
    have hlt := hall.lt _ (List.getElem_mem ha)
    cases hv : (ordN l ts cs Q n).done.getD (orderOf l ts cs Q)[a] true with
    | false => rfl
    | true =>
      have hm := (ho.done _ hlt).1 hv
      rw [← htake] at hm
      obtain ⟨b, hb, hbe⟩ := List.getElem_of_mem hm
      rw [List.getElem_take] at hbe
      rw [List.length_take] at hb
      have := nodup_inj hall.nodup _ _ hbe
      omega
  have f1 := hfr i h1
  have f2 := hfr k h2
  rw [htake]
  obtain ⟨R, hR⟩ := ho.fairly
  obtain ⟨a1, a2, a3⟩ := hR i (by omega) (by rw [frontsOf_at _ _ _ (by omega)]; exact f1)
  obtain ⟨b1, b2, b3⟩ := hR k (by omega) (by rw [frontsOf_at _ _ _ (by omega)]; exact f2)
  have hp := ho.st.pos
  have p1 := hp i
  have p2 := hp k
  rw [wt_at l cs Q hi] at a1 a3
  rw [wt_at l cs Q (by omega)] at b1 b3
  rw [← hw] at b1 b3
  have hg0 : 0 ≤ Q * l[i].2 := Int.mul_nonneg (by have := g.q; omega) (by have := g.w _ (List.getElem_mem hi); omega)
  have hm0 : (0 : Int) ≤ mostOf cs := foldl_max_ge cs 0
  generalize Q * l[i].2 = w at *
  generalize (ordN l ts cs Q n).s.1 = t at *
  generalize (ordN l ts cs Q n).s.2.getD i 0 = ci at *
  generalize (ordN l ts cs Q n).s.2.getD k 0 = ck at *
  rw [Int.mul_add] at a1 b1
  generalize w * R = wR at *
  by_cases e1 : i ≤ t
  · rw [if_pos e1] at a1
    rw [if_pos (by omega)] at b1
    omega
  · rw [if_neg e1] at a1
    have := a2 (by omega)
    by_cases e2 : k ≤ t
    · rw [if_pos e2] at b1
      omega
    · rw [if_neg e2] at b1
      have := b2 (by omega)
      omega
end Go.Proofs.Ytdfnpknekjgkiaa
