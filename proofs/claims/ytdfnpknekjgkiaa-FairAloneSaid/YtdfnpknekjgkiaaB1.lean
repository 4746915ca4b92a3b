/- Small words for the rows of this seat: shares and asks that came in, slices of whole numbers. -/
import Derived.Test.YtdfnpknekjgkiaaD1
import Derived.Test.YtdfnpknekjgkiaaRows
import Derived.ProofKit
import Derived.OpenShut
import Derived.ShutString
import Derived.ChangeOld
import Derived.Below
import Derived.SizedLaws
import Derived.Lib.SmallJoins
import Derived.Deep.Slices
import Derived.Deep.Fields
import Derived.ChangeSame
namespace Go.Proofs.Ytdfnpknekjgkiaa
open Go.Joins Go.ChangeShapes Go.WideShapes Go.RowKit Go.Deep
set_option linter.unusedVariables false
set_option linter.unusedSimpArgs false
section
variable {H : Type} {enc : TypeId × Value → H} {P : Program} {w : World} {base : Nat} {spare : Nat → Bool} {held : Bool}
/-- What a slice of whole numbers that came in reads as. -/
structure RowOf (k : IntKind) (w : World) (a : Option Addr) (len cap : Nat) (xs : List Int) : Prop where
  len_eq : xs.length = len
  ints : Ints k w a xs
  lecap : len ≤ cap
  most : cap ≤ maxLen
  nil : a = none → cap = 0
  wf : ∀ n ∈ xs, (Lit.int k n).wf = true
theorem row_of {t e : TypeId} {k : IntKind} {fuel : Nat} {v : Value} {x : DataW H × List MemPlace} (ht : P.underlying t = some (.slice e)) (he : P.underlying e = some (.int k)) (hc : P.cellsOf e = 1)
    (hf : DataW.trod enc P w base spare held fuel t [v] = some x) : ∃ a len cap xs, v = .slice a len cap ∧ RowOf k w a len cap xs := by
  rcases open_ints ht he hc hf with ⟨hcs, _⟩ | ⟨x, l, c, zs, hcs, _, hl, hm, hz, _, hcell, hwz⟩
  · simp at hcs
    exact ⟨none, 0, 0, [], hcs, rfl, .inl rfl, Nat.le_refl _, by unfold maxLen; omega, fun _ => rfl, fun _ h => by cases h⟩
  · simp at hcs
    have hlz : l ≤ zs.length := by rw [hz]; split <;> omega
    refine ⟨some x, l, c, zs.take l, hcs, by rw [List.length_take]; omega, .inr ⟨x, rfl, fun i hi => ?_⟩, hl, hm, (fun h => by cases h), fun n hn => hwz n (List.mem_of_mem_take hn)⟩
    rw [List.length_take] at hi
    rw [hcell i (by omega)]
    have a1 : i < zs.length := by omega
    have a2 : i < l := by omega
    simp [a1, a2]
theorem wf_i64 {n : Int} (h : (Lit.int .i64 n).wf = true) : -9223372036854775808 ≤ n ∧ n ≤ 9223372036854775807 := by
  have h := h
  simp only [Lit.wf, Bool.and_eq_true, decide_eq_true_eq] at h
  exact h
theorem open_slice_fields {t e : TypeId} {fs : Array Field} {fuel : Nat} {cs : List Value} {x : DataW H × List MemPlace} (ht : P.underlying t = some (.slice e)) (he : P.underlying e = some (.struct fs))
    (hone : oneCellFields P fs = true) (hC : P.cellsOf e = fs.size) (h : DataW.trod enc P w base spare held fuel t cs = some x) :
    (cs = [.slice none 0 0] ∧ x = (.nil, [])) ∨
    ∃ (a : Addr) (len cap m : Nat) (D : Nat → DataW H) (Pl : Nat → List MemPlace), cs = [.slice (some a) len cap] ∧ base ≤ a.block ∧ len ≤ cap ∧ cap ≤ maxLen ∧ m = (if spare a.block then cap else len) ∧
      x = (.slice ((List.range len).map D) ((List.range (m - len)).map fun j => D (len + j)), MemPlace.row a (m * fs.size) ++ (List.range m).flatMap Pl) ∧
      ∀ i, i < m → ∃ (ys : List (DataW H × List MemPlace)) (n : Nat), D i = .agg (ys.map (·.1)) ∧ Pl i = ys.flatMap (·.2) ∧ ys.length = fs.size ∧
        ∀ (j : Nat) (f : Field), fs[j]? = some f → ∃ (v : Value) (y : DataW H × List MemPlace), w.cell? (a.add (i * fs.size + j)) = some v ∧ ys[j]? = some y ∧ DataW.trod enc P w base spare held n f.type [v] = some y := by
  rcases open_slice ht h with h0 | ⟨a, len, cap, m, n, D, Pl, hcs, hb, hl, hm, hmm, hx, hi⟩
  · exact .inl h0
  · refine .inr ⟨a, len, cap, m, D, Pl, hcs, hb, hl, hm, hmm, by rw [hC] at hx; exact hx, fun i him => ?_⟩
    obtain ⟨cs', hc, ht'⟩ := hi i him
    rw [hC] at hc
    obtain ⟨ys, n', hn', hy, hlen, hyl, hf⟩ := DataW.trod_struct he ht'
    obtain ⟨_, hcl, hat⟩ := World.cells?_some hc
    simp only [Prod.mk.injEq] at hy
    refine ⟨ys, n', hy.1, hy.2, hyl, fun j f hj => ?_⟩
    obtain ⟨ho, hk⟩ := hone_of hone j f hj
    have hjl : j < fs.size := (Array.getElem?_eq_some_iff.1 hj).1
    have hcell := hat j hjl
    have hv : cs'[j]? = some (cs'[j]'(by omega)) := List.getElem?_eq_getElem (by omega)
    have h1 := hf j f hj
    rw [ho, hk] at h1
    have hone' : (cs'.drop j).take 1 = [cs'[j]'(by omega)] := by
      rw [List.drop_eq_getElem_cons (by omega)]
      rfl
    rw [hone'] at h1
    have hys : ys[j]? = some (ys[j]'(by omega)) := List.getElem?_eq_getElem (by omega)
    refine ⟨_, _, ?_, hys, h1.trans hys⟩
    rw [← Go.Deep.add_add, hcell, hv]
theorem list_of {α : Type} (n : Nat) (Q : Nat → α → Prop) (h : ∀ i, i < n → ∃ t, Q i t) : ∃ l : List α, l.length = n ∧ ∀ (k : Nat) (t : α), l[k]? = some t → Q k t := by
  induction n with
  | zero => exact ⟨[], rfl, fun k t h => by simp at h⟩
  | succ n ih =>
    obtain ⟨l, hl, hq⟩ := ih (fun i hi => h i (by omega))
    obtain ⟨t, ht⟩ := h n (by omega)
    refine ⟨l ++ [t], by simp [hl], fun k u hk => ?_⟩
    rcases Nat.lt_or_ge k l.length with h1 | h1
    · rw [List.getElem?_append_left h1] at hk
      exact hq k u hk
    · rw [List.getElem?_append_right h1] at hk
      have : k - l.length = 0 := by
        rcases Nat.eq_zero_or_pos (k - l.length) with h | h
        · exact h
        · rw [List.getElem?_eq_none (by simp; omega)] at hk; cases hk
      rw [this] at hk
      simp at hk
      subst hk
      rw [show k = n from by omega]; exact ht
theorem add_at2 (x : Addr) (k j : Nat) (hj : 0 < j) : x.add (k * 2 + j) = ⟨(x.add (k * 2)).block, (x.add (k * 2)).off + j, none⟩ := by
  unfold Addr.add
  by_cases h : k * 2 = 0
  · rw [if_neg (by omega), if_pos h, h]; simp
  · rw [if_neg (by omega), if_neg h]; simp [Nat.add_assoc]
end
section
variable {H : Type} {enc : TypeId × Value → H} {w : World} {base : Nat} {spare : Nat → Bool} {held : Bool}
theorem shs_of {t e : TypeId} {f0 f1 : Field} {fuel : Nat} {v : Value} {x : DataW H × List MemPlace} (ht : Try.prog.underlying t = some (.slice e)) (he : Try.prog.underlying e = some (.struct #[f0, f1])) (h0 : f0.type = 9) (h1 : f1.type = 3) (hone : oneCellFields Try.prog #[f0, f1] = true) (hC : Try.prog.cellsOf e = 2)
    (hf : DataW.trod enc Try.prog w base spare held fuel t [v] = some x) : ∃ a len cap l, v = .slice a len cap ∧ l.length = len ∧ Shs w a l ∧ len ≤ cap ∧ cap ≤ maxLen ∧ (∀ s ∈ l, -9223372036854775808 ≤ s.2 ∧ s.2 ≤ 9223372036854775807) := by
  rcases open_slice_fields ht he hone hC hf with ⟨hcs, _⟩ | ⟨a, len, cap, m, D, Pl, hcs, _, hl, hm, hmm, _, hi⟩
  · simp at hcs
    exact ⟨none, 0, 0, [], hcs, rfl, .inl rfl, Nat.le_refl _, by unfold maxLen; omega, by rintro _ ⟨⟩⟩
  · simp at hcs
    have hml : len ≤ m := by rw [hmm]; split <;> omega
    obtain ⟨l, hll, hq⟩ := list_of len (fun k (s : ByteArray × Int) => (w.cell? (a.add (k * 2)) = some (.string s.1) ∧ w.cell? ⟨(a.add (k * 2)).block, (a.add (k * 2)).off + 1, none⟩ = some (.int .i64 s.2)) ∧ (-9223372036854775808 ≤ s.2 ∧ s.2 ≤ 9223372036854775807)) (fun i hil => by
      obtain ⟨ys, n, _, _, _, hfield⟩ := hi i (by omega)
      obtain ⟨v0, y0, hc0, _, g0⟩ := hfield 0 f0 rfl
      obtain ⟨v1, y1, hc1, _, g1⟩ := hfield 1 f1 rfl
      rw [h0] at g0
      rw [h1] at g1
      obtain ⟨z0, hz0, _, _⟩ := DataW.trod_string Try.underlying9 g0
      obtain ⟨z1, hz1, _, w1⟩ := DataW.trod_int Try.underlying3 g1
      cases hz0; cases hz1
      refine ⟨(z0, z1), ⟨?_, ?_⟩, wf_i64 w1⟩
      · exact hc0
      · rw [← add_at2 a i 1 (by omega)]; exact hc1)
    refine ⟨some a, len, cap, l, hcs, hll, .inr ⟨a, rfl, fun k s hk => (hq k s hk).1⟩, hl, hm, fun s hs => ?_⟩
    obtain ⟨k, hk, rfl⟩ := List.getElem_of_mem hs
    exact (hq k _ (List.getElem?_eq_getElem hk)).2
end
end Go.Proofs.Ytdfnpknekjgkiaa
