/- Rows: a slice of tokens that came in. -/
import Derived.Test.YtbihkkaikcfilaaB1
import Derived.Test.YtbihkkaikcfilaaT2
import Derived.Deep.Slices
import Derived.Deep.Fields
import Derived.ChangeSame
namespace Go.Proofs.Ytbihkkaikcfilaa
open Go.Joins Go.ChangeShapes Go.WideShapes Go.RowKit Go.Deep
set_option linter.unusedVariables false
set_option linter.unusedSimpArgs false
section
variable {H : Type} {enc : TypeId × Value → H} {P : Program} {w : World} {base : Nat} {spare : Nat → Bool} {held : Bool}
theorem open_slice_fields {t e : TypeId} {fs : Array Field} {fuel : Nat} {cs : List Value} {x : DataW H × List MemPlace} (ht : P.underlying t = some (.slice e)) (he : P.underlying e = some (.struct fs))
    (hone : oneCellFields P fs = true) (hC : P.cellsOf e = fs.size) (h : DataW.trod enc P w base spare held fuel t cs = some x) :
    (cs = [.slice none 0 0] ∧ x = (.nil, [])) ∨
    ∃ (a : Addr) (len cap m : Nat) (D : Nat → DataW H) (Pl : Nat → List MemPlace), cs = [.slice (some a) len cap] ∧ base ≤ a.block ∧ len ≤ cap ∧ cap ≤ maxLen ∧ m = (if spare a.block then cap else len) ∧
      x = (.slice ((List.range len).map D) ((List.range (m - len)).map fun j => D (len + j)), MemPlace.row a (m * fs.size) ++ (List.range m).flatMap Pl) ∧
      ∀ i, i < m → ∃ (ys : List (DataW H × List MemPlace)) (n : Nat), D i = .agg (ys.map (·.1)) ∧ Pl i = ys.flatMap (·.2) ∧ ys.length = fs.size ∧
        ∀ (j : Nat) (f : Field), fs[j]? = some f → ∃ (v : Value) (y : DataW H × List MemPlace), w.cell? (a.add (i * fs.size + j)) = some v ∧ ys[j]? = some y ∧ DataW.trod enc P w base spare held n f.type [v] = some y := by
  rcases open_slice ht h with h0 | ⟨a, len, cap, m, n, D, Pl, hcs, hb, hl, hm, hmm, hx, hi⟩
  · exact .inl h0
  · refine .inr ⟨a, len, cap, m, D, Pl, hcs, hb, hl, hm, hmm, by rw [hC] at hx; exact hx, fun i him => ?_⟩
    obtain ⟨cs', hc, ht'⟩ := hi i him
    rw [hC] at hc
    obtain ⟨ys, n', hn', hy, hlen, hyl, hf⟩ := DataW.trod_struct he ht'
    obtain ⟨_, hcl, hat⟩ := World.cells?_some hc
    simp only [Prod.mk.injEq] at hy
    refine ⟨ys, n', hy.1, hy.2, hyl, fun j f hj => ?_⟩
    obtain ⟨ho, hk⟩ := hone_of hone j f hj
    have hjl : j < fs.size := (Array.getElem?_eq_some_iff.1 hj).1
    have hcell := hat j hjl
    have hv : cs'[j]? = some (cs'[j]'(by omega)) := List.getElem?_eq_getElem (by omega)
    have h1 := hf j f hj
    rw [ho, hk] at h1
    have hone' : (cs'.drop j).take 1 = [cs'[j]'(by omega)] := by
      rw [List.drop_eq_getElem_cons (by omega)]
      rfl
    rw [hone'] at h1
    have hys : ys[j]? = some (ys[j]'(by omega)) := List.getElem?_eq_getElem (by omega)
    refine ⟨_, _, ?_, hys, h1.trans hys⟩
    rw [← Go.Deep.add_add, hcell, hv]
theorem list_of {α : Type} (n : Nat) (Q : Nat → α → Prop) (h : ∀ i, i < n → ∃ t, Q i t) : ∃ l : List α, l.length = n ∧ ∀ (k : Nat) (t : α), l[k]? = some t → Q k t := by
  induction n with
  | zero => exact ⟨[], rfl, fun k t h => by simp at h⟩
  | succ n ih =>
    obtain ⟨l, hl, hq⟩ := ih (fun i hi => h i (by omega))
    obtain ⟨t, ht⟩ := h n (by omega)
    refine ⟨l ++ [t], by simp [hl], fun k u hk => ?_⟩
    rcases Nat.lt_or_ge k l.length with h1 | h1
    · rw [List.getElem?_append_left h1] at hk
      exact hq k u hk
    · rw [List.getElem?_append_right h1] at hk
      have : k - l.length = 0 := by
        rcases Nat.eq_zero_or_pos (k - l.length) with h | h
        · exact h
        · rw [List.getElem?_eq_none (by simp; omega)] at hk; cases hk
      rw [this] at hk
      simp at hk
      subst hk
      rw [show k = n from by omega]; exact ht
theorem add_at3 (x : Addr) (k j : Nat) (hj : 0 < j) : x.add (k * 3 + j) = ⟨(x.add (k * 3)).block, (x.add (k * 3)).off + j, none⟩ := by
  unfold Addr.add
  by_cases h : k * 3 = 0
  · rw [if_neg (by omega), if_pos h, h]; simp
  · rw [if_neg (by omega), if_neg h]; simp [Nat.add_assoc]
end
section
variable {H : Type} {enc : TypeId × Value → H} {w : World} {base : Nat} {spare : Nat → Bool} {held : Bool}
theorem toks_of {fuel : Nat} {v : Value} {x : DataW H × List MemPlace} (hf : DataW.trod enc Try.prog w base spare held fuel 30 [v] = some x) : ∃ a len cap l, v = .slice a len cap ∧ l.length = len ∧ Toks w a l ∧ len ≤ cap := by
  rcases open_slice_fields Try.underlying30 Try.underlying32 (by kernel_rfl) (by kernel_rfl) hf with ⟨hcs, _⟩ | ⟨a, len, cap, m, D, Pl, hcs, _, hl, hm, hmm, _, hi⟩
  · simp at hcs
    exact ⟨none, 0, 0, [], hcs, rfl, .inl rfl, Nat.le_refl _⟩
  · simp at hcs
    have hml : len ≤ m := by rw [hmm]; split <;> omega
    obtain ⟨l, hll, hq⟩ := list_of len (fun k t => ∃ b c, TokAt w (a.add (k * 3)) t b c) (fun i hil => by
      obtain ⟨ys, n, _, _, _, hfield⟩ := hi i (by omega)
      obtain ⟨v0, y0, hc0, _, h0⟩ := hfield 0 _ rfl
      obtain ⟨v1, y1, hc1, _, h1⟩ := hfield 1 _ rfl
      obtain ⟨v2, y2, hc2, _, h2⟩ := hfield 2 _ rfl
      obtain ⟨b, ln, cp, xs, rfl, hr⟩ := row_of Try.underlying22 Try.underlying5 (by kernel_rfl) h0
      obtain ⟨z1, hz1, _, w1⟩ := DataW.trod_int Try.underlying3 h1
      obtain ⟨z2, hz2, _, w2⟩ := DataW.trod_int Try.underlying3 h2
      cases hz1; cases hz2
      obtain rfl := hr.len_eq
      refine ⟨⟨xs, z1, z2⟩, b, cp, ?_, ?_, ?_, hr.ints, hr.lecap, hr.nil, allb_wf hr.wf, hr.most, wf_i64 w1, wf_i64 w2⟩
      · exact hc0
      · rw [← add_at3 a i 1 (by omega)]; exact hc1
      · rw [← add_at3 a i 2 (by omega)]; exact hc2)
    exact ⟨some a, len, cap, l, hcs, hll, .inr ⟨a, rfl, hq⟩, hl⟩
end
end Go.Proofs.Ytbihkkaikcfilaa
