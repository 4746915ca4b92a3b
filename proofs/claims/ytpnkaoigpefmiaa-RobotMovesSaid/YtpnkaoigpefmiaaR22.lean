/- What Valid's loop keeps, and what its map tells. -/
import Derived.Test.YtpnkaoigpefmiaaR18
namespace Go.Proofs.Ytpnkaoigpefmiaa
open Go.RowKit Go.Maps
set_option linter.unusedVariables false
set_option linter.unusedSimpArgs false

/-- Each block below s but m's is as it was. -/
def KpV (m s : Nat) (W W' : World) : Prop := W.heap.size ≤ W'.heap.size ∧ ∀ k, k < s → k ≠ m → k < W.heap.size → W'.heap[k]? = W.heap[k]?
theorem KpV.refl {m s : Nat} (W : World) : KpV m s W W := ⟨Nat.le_refl _, fun _ _ _ _ => rfl⟩
theorem KpV.trans {m s : Nat} {X Y Z : World} (h : KpV m s X Y) (k : KpV m s Y Z) : KpV m s X Z :=
  ⟨Nat.le_trans h.1 k.1, fun i h1 h2 h3 => (k.2 i h1 h2 (Nat.lt_of_lt_of_le h3 h.1)).trans (h.2 i h1 h2 h3)⟩
theorem KpV.of_grownBy {m s : Nat} {W W' : World} {row : Option Nat} (hg : W.grownBy W' row) (hr : ∀ j, row = some j → j = m ∨ s ≤ j) : KpV m s W W' :=
  ⟨hg.size, fun k h1 h2 h3 => hg.block k h3 (fun e => by rcases hr k e.symm with h | h; exact h2 h; omega)⟩
theorem KpV.cell {m s : Nat} {X Y : World} (h : KpV m s X Y) {p : Addr} {v : Value} (h1 : p.block < s) (h2 : p.block ≠ m) (hc : X.cell? p = some v) : Y.cell? p = some v := by
  have hb := World.block_lt_of_cell? _ _ hc
  have e := h.2 _ h1 h2 hb
  unfold World.cell? at *
  rw [e]; exact hc
theorem plainElem_bool_inv {P : Program} {e : TypeId} (he : P.underlying e = some .bool) {v : Value} {z : DataW Unit × List MemPlace} (h : plainElem P e v = some z) : ∃ b, v = .bool b ∧ z = (.lit (.bool b), []) := by
  unfold plainElem at h
  rw [he] at h
  cases v <;> simp at h
  subst h
  exact ⟨_, rfl, rfl⟩
theorem seen_look {W : World} {B : Nat} {pre : List Gd} (hown : W.ownsMap Try.prog 9 (plainElem Try.prog 4) B pre.length (seenD pre)) (s : ByteArray) (hs : s.size ≤ maxLen) :
    ((∃ x ∈ pre, x.1.2.2 = s) → (Instr.lookup 60 (.map (some B)) (.string s) false).run Try.prog W = .ok (.bool true) W) ∧ ((¬ ∃ x ∈ pre, x.1.2.2 = s) → (Instr.lookup 60 (.map (some B)) (.string s) false).run Try.prog W = .ok (.bool false) W) := by
  have hz : (zeroValue 4).run Try.prog W = .ok (.bool false) W := by kernel_rfl
  obtain ⟨v, ps, hrun, hv⟩ := hown.lookup (string_keyed Try.underlying9) Try.underlying60 hz (plainElem_bool Try.underlying4 false) (WideMaps.keyOf_string_mk Try.underlying9 hs)
  obtain ⟨b, rfl, hb⟩ := plainElem_bool_inv Try.underlying4 hv
  simp only [Prod.mk.injEq] at hb
  obtain ⟨h1, h2⟩ := seen_at s pre
  constructor
  · intro h
    have e := (h1 h).symm.trans hb.1
    injection e with e; injection e with e
    subst e; exact hrun
  · intro h
    have e := (h2 h).symm.trans hb.1
    injection e with e; injection e with e
    subst e; exact hrun
/-- No barcode twice so far. -/
def Nd (pre : List Gd) : Prop := ∀ q x, q ++ [x] <+: pre → x.1.2.2 ≠ E0 → ∀ y ∈ q, y.1.2.2 ≠ x.1.2.2
theorem nd_nil : Nd [] := fun q x h => by
  have := h.length_le; simp at this
theorem nd_snoc {pre : List Gd} {x : Gd} (h : Nd pre) (hx : x.1.2.2 ≠ E0 → ∀ y ∈ pre, y.1.2.2 ≠ x.1.2.2) : Nd (pre ++ [x]) := by
  intro q y hp hy z hz
  rcases List.prefix_concat_iff.1 hp with h1 | h1
  · have := List.append_inj' h1 rfl
    obtain ⟨rfl, h2⟩ := this
    simp at h2
    subst h2
    exact hx hy z hz
  · exact h q y h1 hy z hz
theorem nd_once {r : Rb} {ys : List Gd} (h : Nd ys) (hy : ys.map (fun y => y.1) = items r) : once (allOf r) := by
  rw [once_items]
  intro q x hp hx y hyq
  rw [← hy] at hp
  have hl := hp.length_le
  simp at hl
  have e := List.prefix_iff_eq_take.1 hp
  rw [← List.map_take] at e
  simp only [List.length_append, List.length_singleton] at e
  rw [List.take_succ_eq_append_getElem (by omega), List.map_append] at e
  obtain ⟨e1, e2⟩ := List.append_inj' e rfl
  simp at e2
  subst e2
  rw [e1] at hyq
  obtain ⟨z, hz, rfl⟩ := List.mem_map.1 hyq
  refine h (ys.take q.length) ys[q.length] ?_ hx z hz
  rw [← List.take_succ_eq_append_getElem]; exact List.take_prefix _ _
theorem twice_not {r : Rb} {q : List Gd} {x : Gd} (hp : (q ++ [x]).map (fun y => y.1) <+: items r) (hx : x.1.2.2 ≠ E0) (hy : ∃ y ∈ q, y.1.2.2 = x.1.2.2) : ¬ once (allOf r) := by
  intro ho
  obtain ⟨y, hyq, e⟩ := hy
  rw [List.map_append] at hp
  exact once_items.1 ho (q.map (fun y => y.1)) x.1 hp hx y.1 (List.mem_map_of_mem hyq) e
end Go.Proofs.Ytpnkaoigpefmiaa
