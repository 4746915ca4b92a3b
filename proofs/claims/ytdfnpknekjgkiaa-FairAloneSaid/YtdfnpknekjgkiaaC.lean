/- Small words that the walks of this seat use: slices of whole numbers, cuts of slices, rows of the call's own, worlds that kept what was below. -/
import Derived.Test.YtdfnpknekjgkiaaProg
import Derived.WalkKit
import Derived.WalkLawsBesides
import Derived.WalkSpells
import Derived.Deep.QuietTactic
import Derived.BigQuiet
import Derived.Deep.RegionHeld3
import Derived.Deep.AppendLies
import Derived.Laws.AppendOwnNone
import Derived.Lib.Hide
import Derived.KernelRfl
namespace Go.Proofs.Ytdfnpknekjgkiaa
open Go.RowKit
set_option linter.unusedVariables false
set_option linter.unusedSimpArgs false

theorem ret_int {k : IntKind} {a b : Int} (h : a = b) : Ending.returned (.int k a) = .returned (.int k b) := by rw [h]

/-! ### Values in memory -/
/-- The first cells at a read as these values. -/
def Vals (w : World) (a : Option Addr) (xs : List Value) : Prop :=
  xs = [] ∨ ∃ x, a = some x ∧ ∀ i v, xs[i]? = some v → w.cell? (x.add i) = some v

/-- The first cells at a read as whole numbers of a kind. -/
def Ints (k : IntKind) (w : World) (a : Option Addr) (xs : List Int) : Prop :=
  xs = [] ∨ ∃ x, a = some x ∧ ∀ i, i < xs.length → w.cell? (x.add i) = some (.int k (xs.getD i 0))

theorem Ints.at {k : IntKind} {w : World} {a : Option Addr} {xs : List Int} (h : Ints k w a xs) {i : Nat} (hi : i < xs.length) : ∃ x, a = some x ∧ w.cell? (x.add i) = some (.int k (xs.getD i 0)) := by
  rcases h with rfl | ⟨x, hx, h⟩
  · simp at hi
  · exact ⟨x, hx, h i hi⟩

theorem Vals.at {w : World} {a : Option Addr} {xs : List Value} (h : Vals w a xs) {i : Nat} {v : Value} (hi : xs[i]? = some v) : ∃ x, a = some x ∧ w.cell? (x.add i) = some v := by
  rcases h with rfl | ⟨x, hx, h⟩
  · simp at hi
  · exact ⟨x, hx, h i v hi⟩

theorem Ints.vals {k : IntKind} {w : World} {a : Option Addr} {xs : List Int} (h : Ints k w a xs) : Vals w a (xs.map (Value.int k)) := by
  rcases h with rfl | ⟨x, hx, h⟩
  · exact .inl rfl
  · refine .inr ⟨x, hx, fun i v hv => ?_⟩
    obtain ⟨hl, rfl⟩ := List.getElem?_eq_some_iff.1 hv
    simp at hl
    rw [h i hl]; simp [hl]
theorem Vals.ints {k : IntKind} {w : World} {a : Option Addr} {xs : List Int} (h : Vals w a (xs.map (Value.int k))) : Ints k w a xs := by
  rcases h with h | ⟨x, hx, h⟩
  · exact .inl (by simpa using h)
  · exact .inr ⟨x, hx, fun i hi => h i _ (by simp [hi])⟩

/-- Each is of the kind u8. -/
def AllB (xs : List Int) : Prop := ∀ x ∈ xs, 0 ≤ x ∧ x ≤ 255
theorem AllB.at {xs : List Int} (h : AllB xs) {i : Nat} (hi : i < xs.length) : 0 ≤ xs[i] ∧ xs[i] ≤ 255 := h _ (List.getElem_mem hi)
theorem AllB.take {xs : List Int} (h : AllB xs) (n : Nat) : AllB (xs.take n) := fun x hx => h x (List.mem_of_mem_take hx)
theorem AllB.drop {xs : List Int} (h : AllB xs) (n : Nat) : AllB (xs.drop n) := fun x hx => h x (List.mem_of_mem_drop hx)
theorem AllB.getD {xs : List Int} (h : AllB xs) (i : Nat) : 0 ≤ xs.getD i 0 ∧ xs.getD i 0 ≤ 255 := by
  by_cases hi : i < xs.length
  · have := h.at hi; simpa [hi] using this
  · simp [hi]
theorem AllB.append {xs ys : List Int} (h : AllB xs) (h2 : AllB ys) : AllB (xs ++ ys) := fun x hx => by
  rcases List.mem_append.1 hx with hx | hx
  · exact h x hx
  · exact h2 x hx

theorem foldl_take_succ {α : Type} (f : α → Int → α) (z : α) (xs : List Int) (k : Nat) (h : k < xs.length) : (xs.take (k + 1)).foldl f z = f ((xs.take k).foldl f z) xs[k] := by
  rw [List.take_succ_eq_append_getElem h, List.foldl_append]; rfl
theorem app_take_succ {α : Type} (xs ys : List α) (j : Nat) (y : α) (h : ys[j]? = some y) : xs ++ ys.take (j + 1) = (xs ++ ys.take j) ++ [y] := by
  obtain ⟨hj, rfl⟩ := List.getElem?_eq_some_iff.1 h
  rw [List.take_succ_eq_append_getElem hj, List.append_assoc]

theorem add_zero' (x : Addr) : x.add 0 = x := rfl
theorem add_at (n : Nat) (i : Nat) : (⟨n, 0, none⟩ : Addr).add i = ⟨n, i, none⟩ := by
  by_cases h : i = 0
  · subst h; rfl
  · simp [Addr.add, h]
theorem add_add (x : Addr) (m i : Nat) : (x.add m).add i = x.add (m + i) := by
  unfold Addr.add
  by_cases h1 : m = 0
  · subst h1; simp
  · by_cases h2 : i = 0
    · subst h2; simp
    · simp [h1, h2, Nat.add_assoc]
theorem add_block (x : Addr) (m : Nat) : (x.add m).block = x.block := by unfold Addr.add; split <;> rfl

/-! ### Worlds -/
theorem below_drewN {B : Nat} {a w : World} (h : Below B a w) (n : Nat) : Below B a (w.drewN n) := ⟨h.os, h.tape, h.output, h.size, h.block⟩
theorem Below.next {B : Nat} {w wx w' : World} (h : Below B w wx) (k : Below wx.heap.size wx w') (hB : B ≤ w.heap.size := by exact Nat.le_refl _) : Below B w w' :=
  h.trans (k.mono (Nat.le_trans hB h.size))
theorem below_alloc {w a : World} (h : Below w.heap.size w a) (o : Obj) : Below w.heap.size w (a.alloc o) := h.alloc h.size o
theorem below_app {w a b : World} {v : Value} {e size n : Nat} {xs : List Value} (h : Below w.heap.size w a) (hg : a.grownBy b v.ownBlock) (hown : a.ownsRow w.heap.size e size v n xs) : Below w.heap.size w b :=
  h.grown hg h.size (fun k hk => (hown.lt k hk).1)
theorem Vals.below {w w' : World} {a : Option Addr} {xs : List Value} (h : Vals w a xs) (hb : Below w.heap.size w w') : Vals w' a xs := by
  rcases h with rfl | ⟨x, hx, h⟩
  · exact .inl rfl
  · refine .inr ⟨x, hx, fun i v hi => ?_⟩
    have := h i v hi
    rw [hb.cell (World.block_lt_of_cell? _ _ this)]; exact this
theorem Ints.below {k : IntKind} {w w' : World} {a : Option Addr} {xs : List Int} (h : Ints k w a xs) (hb : Below w.heap.size w w') : Ints k w' a xs := (h.vals.below hb).ints
theorem Vals.far {w wr w1 : World} {a : Option Addr} {xs : List Value} (h : Vals wr a xs) (hp : ∀ p, a = some p → xs ≠ [] → p.block < w.heap.size) (h0 : Below w.heap.size w wr) (h1 : Below w.heap.size w w1) : Vals w1 a xs := by
  rcases h with rfl | ⟨x, rfl, h⟩
  · exact .inl rfl
  · refine .inr ⟨x, rfl, fun i v hi => ?_⟩
    have hb : (x.add i).block < w.heap.size := by rw [add_block]; exact hp x rfl (by rintro rfl; simp at hi)
    rw [h1.cell hb, ← h0.cell hb]; exact h i v hi
theorem Vals.lt {w : World} {a : Option Addr} {xs : List Value} (h : Vals w a xs) : ∀ p, a = some p → xs ≠ [] → p.block < w.heap.size := by
  rintro p rfl hne
  rcases h with rfl | ⟨x, hx, h⟩
  · exact absurd rfl hne
  · cases hx
    have h0 := List.length_pos_iff.2 hne
    have := h 0 (xs[0]'h0) (List.getElem?_eq_getElem h0)
    exact World.block_lt_of_cell? _ _ this

/-! ### Rows of the call's own -/
theorem ownsRow_mono {w : World} {base base' : Nat} {e : TypeId} {size : Nat} {v : Value} {n : Nat} {xs : List Value} (h : w.ownsRow base e size v n xs) (hb : base' ≤ base) : w.ownsRow base' e size v n xs := by
  refine ⟨h.1, ?_⟩
  rcases h.2 with h | ⟨g, cap, cur, h1, h2, h3⟩
  · exact .inl h
  · exact .inr ⟨g, cap, cur, h1, by omega, h3⟩
theorem ownsRow_below {w w' : World} {base : Nat} {e : TypeId} {size : Nat} {v : Value} {n : Nat} {xs : List Value} (h : w.ownsRow base e size v n xs) (hb : Below w.heap.size w w') : w'.ownsRow base e size v n xs := by
  refine ⟨h.1, ?_⟩
  rcases h.2 with h | ⟨g, cap, cur, h1, h2, h3, h4⟩
  · exact .inl h
  · refine .inr ⟨g, cap, cur, h1, h2, ?_, h4⟩
    have hg : g < w.heap.size := by
      rcases Nat.lt_or_ge g w.heap.size with h | h
      · exact h
      · rw [Array.getElem?_eq_none h] at h3; cases h3
    rw [hb.block g hg]; exact h3
theorem own_snoc {w : World} {base e n m : Nat} {k : IntKind} {v : Value} {xs : List Int} {y : Int} (h : w.ownsRow base e 1 v n (xs.map (Value.int k) ++ [.int k y])) (hm : n = m) : w.ownsRow base e 1 v m ((xs ++ [y]).map (Value.int k)) := by
  subst hm
  rw [List.map_append]; exact h
theorem own_cap {w : World} {base e n m size c : Nat} {a : Option Addr} {xs : List Value} (h : w.ownsRow base e size (.slice a m c) n xs) : n ≤ c := by
  rcases h.2 with ⟨_, rfl⟩ | ⟨g, cap, cur, h1, _, _, h4, _⟩
  · exact Nat.zero_le _
  · injection h1 with _ _ h1
    rw [h1]; exact h4
theorem own_nil {w : World} {base e n m size c : Nat} {a : Option Addr} {xs : List Value} (h : w.ownsRow base e size (.slice a m c) n xs) : a = none → c = 0 := by
  rintro rfl
  rcases h.2 with ⟨h1, _⟩ | ⟨g, cap, cur, h1, _⟩
  · injection h1
  · cases h1
theorem vals_own {w : World} {base e n : Nat} {v : Value} {xs : List Value} (h : w.ownsRow base e 1 v n xs) : ∃ a c, v = .slice a xs.length c ∧ Vals w a xs := by
  have hl := h.1
  simp at hl
  rcases h.2 with ⟨rfl, rfl⟩ | ⟨g, cap, cur, rfl, h1, h2, h3, h4, h5, h6⟩
  · have : xs = [] := List.eq_nil_of_length_eq_zero hl
    subst this
    exact ⟨_, _, rfl, .inl rfl⟩
  · subst hl
    exact ⟨_, _, rfl, .inr ⟨_, rfl, fun i v hi => h.cells (g := g) rfl i v hi⟩⟩
theorem ints_own {w : World} {base e n : Nat} {k : IntKind} {v : Value} {xs : List Int} (h : w.ownsRow base e 1 v n (xs.map (Value.int k))) : ∃ a c, v = .slice a xs.length c ∧ Ints k w a xs := by
  obtain ⟨a, c, hv, hr⟩ := vals_own h
  exact ⟨a, c, by simpa using hv, hr.ints⟩
theorem vals_alloc (w : World) (xs : List Value) (t : TypeId) (fr : Nat × Nat := (0, 0)) : Vals (w.alloc (.cells xs.toArray t fr)) (some ⟨w.heap.size, 0, none⟩) xs := by
  refine .inr ⟨_, rfl, fun i v hi => ?_⟩
  rw [add_at, World.cell?_alloc_mark]
  simpa using hi
theorem ints_alloc (w : World) (k : IntKind) (xs : List Int) (t : TypeId) : Ints k (w.alloc (.cells (xs.map (Value.int k)).toArray t)) (some ⟨w.heap.size, 0, none⟩) xs := (vals_alloc w _ t).ints
theorem cell_one_new (w : World) (v : Value) (t : TypeId) : ∀ j u, [v][j]? = some u → (w.alloc (.cells #[v] t)).cell? ((⟨w.heap.size, 0, none⟩ : Addr).add j) = some u := by
  intro j u h
  cases j with
  | zero =>
    have e : (⟨w.heap.size, 0, none⟩ : Addr).add 0 = ⟨w.heap.size, 0, none⟩ := rfl
    rw [e, World.cell?_alloc_at _ _ _ _ rfl]; simpa using h
  | succ j => simp at h

theorem wpList_append_vals {P : Program} (w : World) {ops : Array Oper} {rest : List Oper} {o : Oper} {a : Act} {Q : Exit → Act → World → Prop} (hgd : o.guard = none) (s x : Operand) (t : TypeId)
    (ho : o.op = .call { callee := .builtin .append, args := #[s, x], argTypes := #[t, t] })
    (base : Nat) (e : TypeId) (i : TypeInfo) (z : Value) (bytes : Nat) (ht : P.underlying t = some (.slice e)) (hi : P.info? e = some i) (hz : i.zero = some z)
    (hsize : i.size = 1) (hby : i.bytes = bytes) (hzs : z.cells.size = 1)
    (v : Value) (n : Nat) (xs : List Value) (hs : a.eval s = v) (hown : w.ownsRow base e 1 v n xs)
    (A : Option Addr) (c m : Nat) (ys : List Value) (hm : ys.length = m) (hx : a.eval x = .slice A m c) (hr : Vals w A ys) (h1 : ∀ u ∈ ys, u.oneCell' = true) (hnil : A = none → c = 0)
    (h63 : n + m ≤ maxLen) (hbytes : (n + m) * bytes ≤ 140737488355328) (hbase : base ≤ w.heap.size)
    (h : ∀ v' w', w'.ownsRow base e 1 v' (n + m) (xs ++ ys) → w.grownBy w' v.ownBlock → wpList P ops Q rest (a.put o.dst v') w') : wpList P ops Q (o :: rest) a w := by
  subst hm
  cases A with
  | none =>
    obtain rfl : c = 0 := hnil rfl
    obtain rfl : ys = [] := by
      rcases hr with h | ⟨_, h, _⟩
      · exact h
      · cases h
    exact wpList_append_own_none hgd s x t ho base e i 1 ht hi v n xs hs hown hx (h v w (by simpa using hown) (World.grownBy.refl _ _))
  | some ad =>
    refine wpList_append_own w hgd s x t ho base e i z 1 bytes ht hi hz hsize hby hzs (by decide) v n xs hs hown ad ys.length c ys hx (by simp) ?_ h1 h63 hbytes hbase fun v' w' h1 h2 _ => h v' w' h1 h2
    intro j u hj
    rcases hr with rfl | ⟨x, hx, hr⟩
    · simp at hj
    · cases hx
      exact hr j u hj

/-! ### Cuts of slices -/
theorem Vals.take {w : World} {a : Option Addr} {xs : List Value} (h : Vals w a xs) (n : Nat) : Vals w a (xs.take n) := by
  rcases h with rfl | ⟨x, hx, h⟩
  · exact .inl (by simp)
  · refine .inr ⟨x, hx, fun i v hi => h i v ?_⟩
    rw [List.getElem?_take] at hi
    split at hi
    · exact hi
    · cases hi
theorem Vals.drop {w : World} {a : Option Addr} {xs : List Value} (h : Vals w a xs) (m c : Nat) (hc : xs.length ≤ c) : Vals w (if c = m then a else a.map (·.add (m * 1))) (xs.drop m) := by
  by_cases hm : xs.length ≤ m
  · exact .inl (List.drop_eq_nil_of_le hm)
  · rw [if_neg (by omega)]
    rcases h with rfl | ⟨x, rfl, h⟩
    · exact .inl (by simp)
    · refine .inr ⟨x.add m, by simp, fun i v hi => ?_⟩
      rw [List.getElem?_drop] at hi
      rw [add_add]; exact h _ v hi
theorem Ints.take {k : IntKind} {w : World} {a : Option Addr} {xs : List Int} (h : Ints k w a xs) (n : Nat) : Ints k w a (xs.take n) := by
  have := h.vals.take n
  rw [← List.map_take] at this
  exact this.ints
theorem Ints.drop {k : IntKind} {w : World} {a : Option Addr} {xs : List Int} (h : Ints k w a xs) (m c : Nat) (hc : xs.length ≤ c) : Ints k w (if c = m then a else a.map (·.add (m * 1))) (xs.drop m) := by
  have := h.vals.drop m c (by simpa using hc)
  rw [← List.map_drop] at this
  exact this.ints
theorem take_run {P : Program} (t e : TypeId) {i : TypeInfo} (ht : P.underlying t = some (.slice e)) (hi : P.info? e = some i) (kl : IntKind) (A : Option Addr) (n c m : Nat) (hm : m ≤ c) (W : World) :
    (Instr.slice t (.slice A n c) none (some (.int kl m)) none).run P W = .ok (.slice A m c) W := by
  have hel : P.elem t = e := by simp [Program.elem, ht]
  have hu : P.underlying t = some (.slice (P.elem t)) := by rw [hel]; exact ht
  have ha : (A.map fun x => x.add 0) = A := by cases A <;> simp [Addr.add]
  rw [run_slice_h W t A n c hu kl m (by omega) (by omega), hel]
  simp [sizeOf, typeInfo, hi, sliced, Result.andThen, ha]
theorem drop_run {P : Program} (t e : TypeId) {i : TypeInfo} (ht : P.underlying t = some (.slice e)) (hi : P.info? e = some i) (kl : IntKind) (A : Option Addr) (n c m : Nat) (hm : m ≤ n) (W : World) :
    (Instr.slice t (.slice A n c) (some (.int kl m)) none none).run P W = .ok (.slice (if c = m then A else A.map (·.add (m * i.size))) (n - m) (c - m)) W := by
  have hel : P.elem t = e := by simp [Program.elem, ht]
  have hu : P.underlying t = some (.slice (P.elem t)) := by rw [hel]; exact ht
  rw [run_slice_l W t A n c hu kl m (by omega) (by omega), hel]
  simp [sizeOf, typeInfo, hi, sliced, Result.andThen]
theorem mid_run {P : Program} (t e : TypeId) {i : TypeInfo} (ht : P.underlying t = some (.slice e)) (hi : P.info? e = some i) (kl kh : IntKind) (A : Option Addr) (n c l h : Nat) (h1 : l ≤ h) (h2 : h ≤ c) (W : World) :
    (Instr.slice t (.slice A n c) (some (.int kl l)) (some (.int kh h)) none).run P W = .ok (.slice (if c = l then A else A.map (·.add (l * i.size))) (h - l) (c - l)) W := by
  have hel : P.elem t = e := by simp [Program.elem, ht]
  have hu : P.underlying t = some (.slice (P.elem t)) := by rw [hel]; exact ht
  rw [run_slice_lh W t A n c hu kl kh l h (by omega) (by omega) (by omega), hel]
  simp [sizeOf, typeInfo, hi, sliced, Result.andThen]
theorem cut_nil {a : Option Addr} {c m : Nat} (h : a = none → c = 0) : (if c = m then a else a.map (·.add (m * 1))) = none → c - m = 0 := by
  intro h'
  by_cases e : c = m
  · omega
  · rw [if_neg e] at h'
    cases a with
    | none => have := h rfl; omega
    | some x => simp at h'
end Go.Proofs.Ytdfnpknekjgkiaa
