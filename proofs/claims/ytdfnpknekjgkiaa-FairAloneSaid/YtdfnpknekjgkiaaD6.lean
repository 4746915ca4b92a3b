/- serve: words, and the fronts. -/
import Derived.Test.YtdfnpknekjgkiaaD5
namespace Go.Proofs.Ytdfnpknekjgkiaa
open Go.RowKit
set_option linter.unusedVariables false
set_option linter.unusedSimpArgs false

/-- The fronts up to a party. -/
def frTo (l : Shares) (ts : List ByteArray) (done : List Bool) (k : Nat) : List Int := (List.range (l.length + 1)).map (fun p => if p < k then frontOf l ts done p else 0)
theorem frTo_len (l : Shares) (ts : List ByteArray) (done : List Bool) (k : Nat) : (frTo l ts done k).length = l.length + 1 := by simp [frTo]
theorem frTo_zero (l : Shares) (ts : List ByteArray) (done : List Bool) : frTo l ts done 0 = List.replicate (l.length + 1) 0 := by
  unfold frTo
  apply List.ext_getElem (by simp)
  intro i h1 h2
  simp
theorem frTo_succ (l : Shares) (ts : List ByteArray) (done : List Bool) (k : Nat) : (frTo l ts done k).set k (frontOf l ts done k) = frTo l ts done (k + 1) := by
  unfold frTo
  apply List.ext_getElem (by simp)
  intro i h1 h2
  simp only [List.getElem_set, List.getElem_map, List.getElem_range]
  by_cases e : k = i
  · subst e; simp
  · rw [if_neg e]
    by_cases h : i < k
    · rw [if_pos h, if_pos (by omega)]
    · rw [if_neg h, if_neg (by omega)]
theorem frTo_all (l : Shares) (ts : List ByteArray) (done : List Bool) : frTo l ts done (l.length + 1) = frontsOf l ts done := by
  unfold frTo frontsOf
  apply List.map_congr_left
  intro p hp
  rw [if_pos (List.mem_range.1 hp)]
/-- The memory while the turns go on. -/
structure SvM (w : World) (t : Nat) (cr fr : List Int) (gc cc gf cf : Nat) (wr : World) : Prop where
  b6 : Blk wr w.heap.size 31 #[.int .i64 t, .slice (some ⟨gc, 0, none⟩) cr.length cc]
  b12 : Blk wr (w.heap.size + 1) 31 #[.int .i64 0, .slice none 0 0]
  cr : RowI wr (w.heap.size + 2) gc cc cr
  fr : RowI wr (w.heap.size + 2) gf cf fr
  ne : gc ≠ gf
  low : Below w.heap.size w wr
theorem SvM.below {w wr w' : World} {t : Nat} {cr fr : List Int} {gc cc gf cf : Nat} (h : SvM w t cr fr gc cc gf cf wr) (hb : Below wr.heap.size wr w') : SvM w t cr fr gc cc gf cf w' :=
  ⟨h.b6.below hb, h.b12.below hb, h.cr.below hb, h.fr.below hb, h.ne, Below.next h.low hb⟩
theorem SvM.drewN {w wr : World} {t : Nat} {cr fr : List Int} {gc cc gf cf : Nat} (h : SvM w t cr fr gc cc gf cf wr) (n : Nat) : SvM w t cr fr gc cc gf cf (wr.drewN n) :=
  ⟨h.b6, h.b12, h.cr, h.fr, h.ne, below_drewN h.low n⟩
theorem SvM.setCr {w wr : World} {t : Nat} {cr fr : List Int} {gc cc gf cf : Nat} (h : SvM w t cr fr gc cc gf cf wr) (j : Nat) (v : Int) : SvM w t (cr.set j v) fr gc cc gf cf (wr.setCell ⟨gc, j, none⟩ (.int .i64 v)) := by
  obtain ⟨h1, h2, h3, h4, h5, h6⟩ := h
  have hlt := h3.lt
  exact ⟨by rw [List.length_set]; exact h1.other j (by omega) _, h2.other j (by omega) _, h3.set j v, h4.other j (Ne.symm h5) _, h5, h6.setCell (by show w.heap.size ≤ gc; omega) _⟩
theorem SvM.setFr {w wr : World} {t : Nat} {cr fr : List Int} {gc cc gf cf : Nat} (h : SvM w t cr fr gc cc gf cf wr) (j : Nat) (v : Int) : SvM w t cr (fr.set j v) gc cc gf cf (wr.setCell ⟨gf, j, none⟩ (.int .i64 v)) := by
  obtain ⟨h1, h2, h3, h4, h5, h6⟩ := h
  have hlt := h4.lt
  exact ⟨h1.other j (by omega) _, h2.other j (by omega) _, h3.other j h5 _, h4.set j v, h5, h6.setCell (by show w.heap.size ≤ gf; omega) _⟩
theorem SvM.setT {w wr : World} {t : Nat} {cr fr : List Int} {gc cc gf cf : Nat} (h : SvM w t cr fr gc cc gf cf wr) (t' : Nat) : SvM w t' cr fr gc cc gf cf (wr.setCell ⟨w.heap.size, 0, none⟩ (.int .i64 t')) := by
  obtain ⟨h1, h2, h3, h4, h5, h6⟩ := h
  have hlt := h3.lt
  have hlt2 := h4.lt
  exact ⟨h1.set 0 _, h2.other 0 (by omega) _, h3.other 0 (by omega) _, h4.other 0 (by omega) _, h5, h6.setCell (Nat.le_refl _) _⟩
theorem SvM.facts {w wr : World} {t : Nat} {cr fr : List Int} {gc cc gf cf : Nat} (h : SvM w t cr fr gc cc gf cf wr) (h1 : t < cr.length) (h2 : t < fr.length) :
    wr.cell? ⟨w.heap.size, 0, none⟩ = some (.int .i64 t) ∧ wr.cell? ⟨w.heap.size, 1, none⟩ = some (.slice (some ⟨gc, 0, none⟩) cr.length cc) ∧ wr.cell? ⟨gc, t, none⟩ = some (.int .i64 (cr.getD t 0)) ∧ wr.cell? ⟨gf, t, none⟩ = some (.int .i64 (fr.getD t (-1))) ∧ (∀ j, wr.frozen? ⟨w.heap.size, j, none⟩ = false) ∧ (∀ j, wr.frozen? ⟨w.heap.size + 1, j, none⟩ = false) ∧ (∀ j, wr.frozen? ⟨gc, j, none⟩ = false) ∧ (∀ j, wr.frozen? ⟨gf, j, none⟩ = false) ∧ w.heap.size < gc ∧ w.heap.size < gf ∧ w.heap.size + 1 < gc ∧ w.heap.size + 1 < gf := by
  obtain ⟨a, b, c, d, e, f⟩ := h
  have := c.lt; have := d.lt
  exact ⟨a.cell 0, a.cell 1, c.at h1 0, d.at h2 (-1), fun j => a.free j, fun j => b.free j, fun j => c.free j, fun j => d.free j, by omega, by omega, by omega, by omega⟩
/-- The way into a scope with a label: what the passes show is given. -/
theorem wp_scope_first {P : Program} {a : Act} {w : World} {Q : Exit → Act → World → Prop} {c b : Code} (l : Nat) (J : Nat → Act → World → Prop) (hf : findLabel c l = some (.seq .skip b))
    (pass : ∀ n a w, J n a w → b.wp P (Exit.jump l (fun a' w' => ∃ n', n' < n ∧ J n' a' w') Q) a w)
    (first : (∀ n a w, J n a w → b.wp P (Exit.jump l (fun a' w' => ∃ n', J n' a' w') Q) a w) → c.wp P (Exit.jump l (fun a' w' => ∃ n, J n a' w') Q) a w) : (Code.scope c).wp P Q a w :=
  wp_scope_ghost l J hf (first fun n a w h => Code.wp_mono (fun e a' w' hq => by
    cases e with
    | goto l' =>
      obtain ⟨rfl, n', _, hI'⟩ := hq
      exact ⟨rfl, n', hI'⟩
    | normal => exact hq
    | exit id => exact hq
    | ret => exact hq
    | panic ch => exact hq
    | outgrown => exact hq) (pass n a w h)) fun n a w h => wp_seq (wp_skip (pass n a w h))
theorem frame_open {l : List Value} {a0 a1 a2 a3 a4 a5 a6 a7 a8 a9 a10 a11 a12 a13 a14 : Value} (h : l.length = 107) (hp : l.take 15 = [a0, a1, a2, a3, a4, a5, a6, a7, a8, a9, a10, a11, a12, a13, a14]) :
    ∃ u : Nat → Value, l = [a0, a1, a2, a3, a4, a5, a6, a7, a8, a9, a10, a11, a12, a13, a14, u 15, u 16, u 17, u 18, u 19, u 20, u 21, u 22, u 23, u 24, u 25, u 26, u 27, u 28, u 29, u 30, u 31, u 32, u 33, u 34, u 35, u 36, u 37, u 38, u 39, u 40, u 41, u 42, u 43, u 44, u 45, u 46, u 47, u 48, u 49, u 50, u 51, u 52, u 53, u 54, u 55, u 56, u 57, u 58, u 59, u 60, u 61, u 62, u 63, u 64, u 65, u 66, u 67, u 68, u 69, u 70, u 71, u 72, u 73, u 74, u 75, u 76, u 77, u 78, u 79, u 80, u 81, u 82, u 83, u 84, u 85, u 86, u 87, u 88, u 89, u 90, u 91, u 92, u 93, u 94, u 95, u 96, u 97, u 98, u 99, u 100, u 101, u 102, u 103, u 104, u 105, u 106] := by
  refine ⟨fun i => l.getD i undef, ?_⟩
  have hd : l.drop 15 = (List.range 92).map (fun i => l.getD (i + 15) undef) := by
    apply List.ext_getElem (by simp [h])
    intro i h1 h2
    simp at h2
    simp [show i + 15 < l.length by omega, Nat.add_comm]
  exact (List.take_append_drop 15 l).symm.trans (by rw [hp, hd]; rfl)
end Go.Proofs.Ytdfnpknekjgkiaa
