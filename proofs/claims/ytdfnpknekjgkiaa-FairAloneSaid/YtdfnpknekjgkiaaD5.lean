/- Blocks and rows of the call's own; slices.Clone. -/
import Derived.Test.YtdfnpknekjgkiaaD4
import Derived.Laws.OwnMore
import Derived.ChangeAlike
import Derived.OneCell
import Derived.Deep.LoopGhost
import Derived.ScopeJumps
import Derived.WalkMore
namespace Go.Proofs.Ytdfnpknekjgkiaa
open Go.RowKit
set_option linter.unusedVariables false
set_option linter.unusedSimpArgs false

/-- A block of cells. -/
def Blk (W : World) (B : Nat) (t : TypeId) (cs : Array Value) : Prop := W.heap[B]? = some (.cells cs t (0, 0))
theorem Blk.lt {W : World} {B : Nat} {t : TypeId} {cs : Array Value} (h : Blk W B t cs) : B < W.heap.size := (Array.getElem?_eq_some_iff.1 h).1
theorem Blk.kept {W W' : World} {row : Option Nat} {B : Nat} {t : TypeId} {cs : Array Value} (h : Blk W B t cs) (hg : W.grownBy W' row) (hne : some B ≠ row) : Blk W' B t cs := (hg.block B h.lt hne).trans h
theorem Blk.alloc {W : World} {B : Nat} {t : TypeId} {cs : Array Value} (h : Blk W B t cs) (o : Obj) : Blk (W.alloc o) B t cs := h.kept (World.grownBy_alloc W o none) (by simp)
theorem Blk.cell {W : World} {B : Nat} {t : TypeId} {cs : Array Value} (h : Blk W B t cs) (j : Nat) : W.cell? ⟨B, j, none⟩ = cs[j]? := cell_of_row W B j cs t (0, 0) h
theorem Blk.free {W : World} {B : Nat} {t : TypeId} {cs : Array Value} (h : Blk W B t cs) (j : Nat) : W.frozen? ⟨B, j, none⟩ = false := by simp [World.frozen?, show W.heap[B]? = _ from h]
theorem Blk.new (W : World) (t : TypeId) (cs : Array Value) : Blk (W.alloc (.cells cs t)) W.heap.size t cs := by show (W.heap.push _)[W.heap.size]? = _; simp
theorem Blk.set {W : World} {B : Nat} {t : TypeId} {cs : Array Value} (h : Blk W B t cs) (j : Nat) (v : Value) : Blk (W.setCell ⟨B, j, none⟩ v) B t (cs.setIfInBounds j v) := by
  have hlt := h.lt
  have h' : W.heap[B] = .cells cs t (0, 0) := by
    have := h
    unfold Blk at this
    rw [Array.getElem?_eq_getElem hlt] at this
    exact Option.some.inj this
  show (W.heap.modify B _)[B]? = _
  rw [Array.getElem?_eq_getElem (by simpa using hlt), Array.getElem_modify_self, h']
  rfl
theorem Blk.below {W W' : World} {B : Nat} {t : TypeId} {cs : Array Value} (h : Blk W B t cs) (hb : Below W.heap.size W W') : Blk W' B t cs := (hb.block _ h.lt).trans h
theorem Blk.keep {W W' : World} {B n : Nat} {t : TypeId} {cs : Array Value} (h : Blk W B t cs) (hb : Below n W W') (hB : B < n) : Blk W' B t cs := (hb.block _ hB).trans h
theorem Blk.other {W : World} {B B' : Nat} {t : TypeId} {cs : Array Value} (h : Blk W B t cs) (j : Nat) (hne : B ≠ B') (u : Value) : Blk (W.setCell ⟨B', j, none⟩ u) B t cs := (Below.heap_setCell W ⟨B', j, none⟩ u B (by show _ ≠ _; exact hne)).trans h
theorem Blk.drewN {W : World} {B : Nat} {t : TypeId} {cs : Array Value} (h : Blk W B t cs) (n : Nat) : Blk (W.drewN n) B t cs := h
theorem size_setCell (W : World) (x : Addr) (v : Value) : (W.setCell x v).heap.size = W.heap.size := by
  show (W.heap.modify _ _).size = _
  rw [Array.size_modify]

/-! ### Rows -/
def Row {α : Type} (t : TypeId) (f : α → Value) (W : World) (base g cap : Nat) (xs : List α) : Prop := W.ownsRow base t 1 (.slice (some ⟨g, 0, none⟩) xs.length cap) xs.length (xs.map f)
section
variable {α : Type} {t : TypeId} {f : α → Value} {W W' : World} {base g cap : Nat} {xs : List α}
theorem Row.lt (h : Row t f W base g cap xs) : base ≤ g ∧ g < W.heap.size := by
  rcases h.2 with ⟨h1, _⟩ | ⟨g', c', cur, h1, h2, h3, _⟩
  · injection h1 with h1; cases h1
  · injection h1 with h1; injection h1 with h1; injection h1 with h1; subst h1
    exact ⟨h2, (Array.getElem?_eq_some_iff.1 h3).1⟩
theorem Row.cap_le (h : Row t f W base g cap xs) : xs.length ≤ cap := own_cap h
theorem Row.cell? (h : Row t f W base g cap xs) (j : Nat) (v : α) (hj : xs[j]? = some v) : W.cell? ⟨g, j, none⟩ = some (f v) := by
  have := World.ownsRow.cells (g := g) h rfl j (f v) (by simp [hj])
  rw [add_at] at this; exact this
theorem Row.free (h : Row t f W base g cap xs) (j : Nat) : W.frozen? ⟨g, j, none⟩ = false := World.ownsRow.frozenAt h j
theorem Row.set (h : Row t f W base g cap xs) (j : Nat) (v : α) : Row t f (W.setCell ⟨g, j, none⟩ (f v)) base g cap (xs.set j v) := by
  have := (World.ownsRow.stored h j (f v)).1
  unfold Row
  rw [List.length_set, List.map_set]; exact this
theorem Row.other (h : Row t f W base g cap xs) {B : Nat} (j : Nat) (hne : g ≠ B) (u : Value) : Row t f (W.setCell ⟨B, j, none⟩ u) base g cap xs := ownsRow_setCell_other h (by show some g ≠ some B; simpa using hne) u
theorem Row.below (h : Row t f W base g cap xs) (hb : Below W.heap.size W W') : Row t f W' base g cap xs := ownsRow_below h hb
theorem Row.mono {base' : Nat} (h : Row t f W base g cap xs) (hb : base' ≤ base) : Row t f W base' g cap xs := ownsRow_mono h hb
theorem Row.drewN (h : Row t f W base g cap xs) (n : Nat) : Row t f (W.drewN n) base g cap xs := h
theorem Row.vals (h : Row t f W base g cap xs) : Vals W (some ⟨g, 0, none⟩) (xs.map f) := by
  refine .inr ⟨_, rfl, fun i v hi => ?_⟩
  exact World.ownsRow.cells (g := g) h rfl i v hi
theorem row_of_own {v : Value} (h : W.ownsRow base t 1 v xs.length (xs.map f)) (hne : xs ≠ []) : ∃ g cap, v = .slice (some ⟨g, 0, none⟩) xs.length cap ∧ Row t f W base g cap xs := by
  rcases h.2 with ⟨rfl, h1⟩ | ⟨g, c, cur, rfl, h2⟩
  · exact absurd (List.eq_nil_of_length_eq_zero h1) hne
  · exact ⟨g, c, rfl, h⟩
end
/-- An int row. -/
abbrev RowI := Row 3 (Value.int .i64)
abbrev RowB := Row 4 Value.bool
theorem RowI.at {W : World} {base g cap : Nat} {xs : List Int} (h : RowI W base g cap xs) {j : Nat} (hj : j < xs.length) (d : Int) : W.cell? ⟨g, j, none⟩ = some (.int .i64 (xs.getD j d)) := by
  rw [h.cell? j xs[j] (List.getElem?_eq_getElem hj)]; simp [hj]
theorem info3 : (Try.prog.info? 3).map (fun i => (i.zero, i.size, i.bytes)) = some (some (.int .i64 0), 1, 8) := by kernel_rfl
theorem info4 : (Try.prog.info? 4).map (fun i => (i.zero, i.size, i.bytes)) = some (some (.bool false), 1, 1) := by kernel_rfl
theorem ints_oneCell (k : IntKind) (xs : List Int) : ∀ u ∈ xs.map (Value.int k), u.oneCell' = true := by
  intro u hu
  obtain ⟨n, _, rfl⟩ := List.mem_map.1 hu
  rfl
theorem make_ints (w : World) (base n : Nat) (hn : n ≤ 1000000) (hb : base ≤ w.heap.size) :
    (Instr.makeSlice 27 (.int .i64 (n : Int)) (.int .i64 (n : Int))).run Try.prog w = .ok (.slice (some ⟨w.heap.size, 0, none⟩) n n) (w.alloc (.cells (madeCells (Value.int .i64 0).cells (n * 1)) 3)) ∧ RowI (w.alloc (.cells (madeCells (Value.int .i64 0).cells (n * 1)) 3)) base w.heap.size n (List.replicate n 0) := by
  obtain ⟨i0, hi, hz0, hz1, hz2⟩ := info_parts info3
  have hr := run_make (P := Try.prog) w 27 3 i0 (.int .i64 0) Try.underlying27 hi hz0 .i64 .i64 n n (by omega) (Int.le_refl _) (by rw [hz2]; omega) (by omega)
  simp only [Int.toNat_natCast, hz1] at hr
  refine ⟨hr, ?_⟩
  have := World.ownsRow_lit (base := base) (e := 3) (size := 1) w (madeCells (Value.int .i64 0).cells (n * 1)) n hb (by unfold maxLen; omega) (size_madeCells _ _)
  unfold RowI Row
  rw [List.length_replicate, List.map_replicate]
  have e : (madeCells (Value.int .i64 0).cells (n * 1)).toList = List.replicate n (.int .i64 0) := by rw [Nat.mul_one]; exact toList_madeCells_one _ _
  rw [e] at this; exact this
theorem make_bools (w : World) (base n : Nat) (hn : n ≤ 1000000) (hb : base ≤ w.heap.size) :
    (Instr.makeSlice 67 (.int .i64 (n : Int)) (.int .i64 (n : Int))).run Try.prog w = .ok (.slice (some ⟨w.heap.size, 0, none⟩) n n) (w.alloc (.cells (madeCells (Value.bool false).cells (n * 1)) 4)) ∧ RowB (w.alloc (.cells (madeCells (Value.bool false).cells (n * 1)) 4)) base w.heap.size n (List.replicate n false) := by
  obtain ⟨i0, hi, hz0, hz1, hz2⟩ := info_parts info4
  have hr := run_make (P := Try.prog) w 67 4 i0 (.bool false) Try.underlying67 hi hz0 .i64 .i64 n n (by omega) (Int.le_refl _) (by rw [hz2]; omega) (by omega)
  simp only [Int.toNat_natCast, hz1] at hr
  refine ⟨hr, ?_⟩
  have := World.ownsRow_lit (base := base) (e := 4) (size := 1) w (madeCells (Value.bool false).cells (n * 1)) n hb (by unfold maxLen; omega) (size_madeCells _ _)
  unfold RowB Row
  rw [List.length_replicate, List.map_replicate]
  have e : (madeCells (Value.bool false).cells (n * 1)).toList = List.replicate n (.bool false) := by rw [Nat.mul_one]; exact toList_madeCells_one _ _
  rw [e] at this; exact this
set_option maxRecDepth 100000 in
set_option maxHeartbeats 4000000 in
theorem clone_any (xs : List Int) (a : Option Addr) (c : Nat) (w : World) (hx : Ints .i64 w a xs) (hc : xs.length ≤ c) (hnil : a = none → c = 0) (hl : xs.length ≤ 1000000) :
    Calls Try.prog 34 #[.slice a xs.length c] w fun e w' => ∃ v, e = .returned v ∧ w'.ownsRow w.heap.size 3 1 v xs.length (xs.map (Value.int .i64)) ∧ Below w.heap.size w w' := by
  obtain ⟨i0, hi, hz0, hz1, hz2⟩ := info_parts info3
  have hq := fun (w : World) (a : Option Addr) (n c n' c' : Nat) => Lib.run_eql_slice_nil (P := Try.prog) w 27 3 a n c n' c' Try.underlying27
  cases a with
  | none =>
    obtain rfl : c = 0 := hnil rfl
    obtain rfl : xs = [] := List.eq_nil_of_length_eq_zero (by omega)
    go_enter Try.func34, Try.ntmps34
    go_wp2
    go_ret
    exact ⟨_, rfl, ⟨by simp, .inl ⟨rfl, rfl⟩⟩, Below.refl _ _⟩
  | some x =>
    have hxv : Vals (w.alloc (.cells #[] 3)) (some x) (xs.map (Value.int .i64)) := (hx.below (below_alloc (Below.refl _ _) _)).vals
    have hown0 : (w.alloc (.cells #[] 3)).ownsRow w.heap.size 3 1 (.slice (some ⟨w.heap.size, 0, none⟩) 0 0) 0 [] := World.ownsRow_lit (base := w.heap.size) (e := 3) (size := 1) w #[] 0 (Nat.le_refl _) (by unfold maxLen; omega) rfl
    go_enter Try.func34, Try.ntmps34
    go_wp2_with (at_builtin; refine wpList_append_vals _ rfl _ _ 27 rfl w.heap.size 3 i0 (.int .i64 0) 8 Try.underlying27 hi hz0 hz1 hz2 rfl _ 0 [] rfl hown0 (some x) c xs.length (xs.map (Value.int .i64)) (by simp) rfl hxv (ints_oneCell _ _) hnil (by unfold maxLen; omega) (by omega) (by simp) ?_)
    intro v6 w6 hown6 hgrow6
    have hb6 : Below w.heap.size w w6 := below_app (below_alloc (Below.refl _ _) _) hgrow6 hown0
    have HO := Lib.hid hown6
    clear hown6 hgrow6 hown0 hxv
    go_wp2
    go_ret
    exact ⟨_, rfl, by simpa using HO.out, hb6⟩
/-- A scope in which the run jumps back to one label, the measure a number of the proof's own. -/
theorem wp_scope_ghost {P : Program} {a : Act} {w : World} {Q : Exit → Act → World → Prop} {c rest : Code} (l : Nat) (J : Nat → Act → World → Prop) (hf : findLabel c l = some rest)
    (first : c.wp P (Exit.jump l (fun a' w' => ∃ n, J n a' w') Q) a w)
    (pass : ∀ n a w, J n a w → rest.wp P (Exit.jump l (fun a' w' => ∃ n', n' < n ∧ J n' a' w') Q) a w) : (Code.scope c).wp P Q a w := by
  refine wp_scope_jumps l (fun a w => ∃ n, J n a w) (fun a w => leastOf (fun n => J n a w)) hf first ?_
  intro a w hI
  refine Code.wp_mono ?_ (pass _ a w (leastOf_spec hI).1)
  intro e a' w' hq
  cases e with
  | goto l' =>
    obtain ⟨rfl, n', hlt, hI'⟩ := hq
    exact ⟨rfl, ⟨n', hI'⟩, Nat.lt_of_le_of_lt ((leastOf_spec ⟨n', hI'⟩).2 n' hI') hlt⟩
  | normal => exact hq
  | exit id => exact hq
  | ret => exact hq
  | panic ch => exact hq
  | outgrown => exact hq
end Go.Proofs.Ytdfnpknekjgkiaa
