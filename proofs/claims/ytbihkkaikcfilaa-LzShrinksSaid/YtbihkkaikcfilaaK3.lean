/- Pack's closure emit: the literals up to a place, and a copy. -/
import Derived.Test.YtbihkkaikcfilaaK2
import Derived.OneCell
import Derived.StillTailTactics
import Derived.BigQuiet
namespace Go.Proofs.Ytbihkkaikcfilaa
open Go.RowKit
set_option linter.unusedVariables false
set_option linter.unusedSimpArgs false

structure PkS (w : World) (a : Option Addr) (c : Nat) (xs : List Int) (start : Nat) (o : List Int) (wr : World) (ov : Value) : Prop where
  b0 : wr.heap[w.heap.size]? = some (.cells #[.slice a xs.length c] 22 (0, 0))
  b1 : wr.heap[w.heap.size + 1]? = some (.cells #[ov] 22 (0, 0))
  b2 : wr.heap[w.heap.size + 2]? = some (.cells #[.int .i64 start] 3 (0, 0))
  own : wr.ownsRow (w.heap.size + 4) 5 1 ov o.length (o.map (Value.int .u8))
  sz : w.heap.size + 4 ≤ wr.heap.size
  low : Below w.heap.size w wr
/-- The map's block is as it was. -/
def KeepM (w wr w' : World) : Prop := w'.heap[w.heap.size + 3]? = wr.heap[w.heap.size + 3]?
theorem own_not {w : World} {base e size n B : Nat} {v : Value} {xs : List Value} (h : w.ownsRow base e size v n xs) (hB : B < base) : some B ≠ v.ownBlock := fun e => by have := (h.lt _ e.symm).1; omega
variable {w : World} {a : Option Addr} {c : Nat} {xs : List Int} {start : Nat} {o : List Int} {wr w' : World} {ov : Value}
theorem PkS.below (h : PkS w a c xs start o wr ov) (hb : Below wr.heap.size wr w') : PkS w a c xs start o w' ov ∧ KeepM w wr w' := by
  obtain ⟨h0, h1, h2, h3, h4, h5⟩ := h
  exact ⟨⟨by rw [hb.block _ (by omega)]; exact h0, by rw [hb.block _ (by omega)]; exact h1, by rw [hb.block _ (by omega)]; exact h2, ownsRow_below h3 hb, by have := hb.size; omega, Below.next h5 hb⟩, hb.block _ (by omega)⟩
theorem PkS.drew (h : PkS w a c xs start o wr ov) : PkS w a c xs start o wr.drew ov := by
  obtain ⟨h0, h1, h2, h3, h4, h5⟩ := h
  exact ⟨h0, h1, h2, h3.drew, h4, h5.drew⟩
theorem PkS.grown {o2 : List Int} {v2 : Value} (h : PkS w a c xs start o wr ov) (hg : wr.grownBy w' ov.ownBlock) : w'.heap[w.heap.size]? = some (.cells #[.slice a xs.length c] 22 (0, 0)) ∧ w'.heap[w.heap.size + 1]? = some (.cells #[ov] 22 (0, 0)) ∧ w'.heap[w.heap.size + 2]? = some (.cells #[.int .i64 start] 3 (0, 0)) ∧ w.heap.size + 4 ≤ w'.heap.size ∧ Below w.heap.size w w' ∧ KeepM w wr w' := by
  obtain ⟨h0, h1, h2, h3, h4, h5⟩ := h
  have hne := fun B (hB : B < w.heap.size + 4) => own_not h3 hB
  refine ⟨by rw [hg.block _ (by omega) (hne _ (by omega))]; exact h0, by rw [hg.block _ (by omega) (hne _ (by omega))]; exact h1, by rw [hg.block _ (by omega) (hne _ (by omega))]; exact h2, by have := hg.size; omega, ?_, hg.block _ (by omega) (hne _ (by omega))⟩
  exact h5.grown hg h5.size (fun k hk => by have := (h3.lt k hk).1; omega)
/-- The result's cell is written. -/
theorem set_out {o2 : List Int} {v2 : Value} (h0 : wr.heap[w.heap.size]? = some (.cells #[.slice a xs.length c] 22 (0, 0))) (h1 : wr.heap[w.heap.size + 1]? = some (.cells #[ov] 22 (0, 0))) (h2 : wr.heap[w.heap.size + 2]? = some (.cells #[.int .i64 start] 3 (0, 0)))
    (h4 : w.heap.size + 4 ≤ wr.heap.size) (h5 : Below w.heap.size w wr) (h3 : wr.ownsRow (w.heap.size + 4) 5 1 v2 o2.length (o2.map (Value.int .u8))) :
    PkS w a c xs start o2 (wr.setCell ⟨w.heap.size + 1, 0, none⟩ v2) v2 ∧ KeepM w wr (wr.setCell ⟨w.heap.size + 1, 0, none⟩ v2) := by
  refine ⟨⟨?_, one_setCell h1, ?_, ownsRow_setCell_other h3 (Ne.symm (own_not h3 (by show w.heap.size + 1 < _; omega))) _, ?_, h5.setCell (by show w.heap.size ≤ w.heap.size + 1; omega) _⟩, ?_⟩
  · rw [Below.heap_setCell _ _ _ _ (by show _ ≠ _; simp)]; exact h0
  · rw [Below.heap_setCell _ _ _ _ (by show _ ≠ _; simp)]; exact h2
  · show _ ≤ (wr.heap.modify _ _).size
    rw [Array.size_modify]; exact h4
  · exact Below.heap_setCell _ _ _ _ (by show _ ≠ _; simp)
theorem PkS.setStart (h : PkS w a c xs start o wr ov) (s2 : Nat) : PkS w a c xs s2 o (wr.setCell ⟨w.heap.size + 2, 0, none⟩ (.int .i64 s2)) ov ∧ KeepM w wr (wr.setCell ⟨w.heap.size + 2, 0, none⟩ (.int .i64 s2)) := by
  obtain ⟨h0, h1, h2, h3, h4, h5⟩ := h
  refine ⟨⟨?_, ?_, one_setCell h2, ownsRow_setCell_other h3 (Ne.symm (own_not h3 (by show w.heap.size + 2 < _; omega))) _, ?_, h5.setCell (by show w.heap.size ≤ w.heap.size + 2; omega) _⟩, ?_⟩
  · rw [Below.heap_setCell _ _ _ _ (by show _ ≠ _; simp)]; exact h0
  · rw [Below.heap_setCell _ _ _ _ (by show _ ≠ _; simp)]; exact h1
  · show _ ≤ (wr.heap.modify _ _).size
    rw [Array.size_modify]; exact h4
  · exact Below.heap_setCell _ _ _ _ (by show _ ≠ _; simp)
end Go.Proofs.Ytbihkkaikcfilaa
