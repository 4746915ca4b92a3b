/- The contracts of the reference's hashes of merkle: lists of bytes that are appended to. -/
import Derived.Test.YtibakdebmclkiaaA1
import Derived.Laws.AppendOwnNone
namespace Go.Proofs.Ytibakdebmclkiaa
open Go.RowKit
set_option linter.unusedVariables false
set_option linter.unusedSimpArgs false

theorem info5 : (Try.prog.info? 5).map (fun i => (i.zero, i.size, i.bytes)) = some (some (.int .u8 0), 1, 1) := by kernel_rfl

theorem cell_one_new (w : World) (v : Value) (t : TypeId) : ∀ j u, [v][j]? = some u → (w.alloc (.cells #[v] t)).cell? ((⟨w.heap.size, 0, none⟩ : Addr).add j) = some u := by
  intro j u h
  cases j with
  | zero =>
    have e : (⟨w.heap.size, 0, none⟩ : Addr).add 0 = ⟨w.heap.size, 0, none⟩ := rfl
    rw [e, World.cell?_alloc_at _ _ _ _ rfl]; simpa using h
  | succ j => simp at h
theorem app_take_succ {α : Type} (xs ys : List α) (j : Nat) (y : α) (h : ys[j]? = some y) : xs ++ ys.take (j + 1) = (xs ++ ys.take j) ++ [y] := by
  obtain ⟨hj, rfl⟩ := List.getElem?_eq_some_iff.1 h
  rw [List.take_succ_eq_append_getElem hj, List.append_assoc]

set_option maxHeartbeats 800000 in
theorem rbytes_any (base : Nat) (v : Value) (xs : List Int) (x : Int) (w : World) (hown : w.ownsRow base 5 1 v xs.length (xs.map (Value.int .u8))) (hbase : base ≤ w.heap.size) (hl : xs.length ≤ 140737488351000) :
    Calls Try.prog 39 #[v, .int .u64 x] w fun e w' => ∃ v', e = .returned v' ∧ w'.ownsRow base 5 1 v' (xs.length + 8) ((xs ++ bys x).map (Value.int .u8)) ∧ Below base w w' := by
  obtain ⟨i0, hi, hz0, hz1, hz2⟩ := info_parts info5
  have hy : (bys x).length = 8 := rfl
  go_enter Try.func39, Try.ntmps39
  go_wp2
  go_loopw [0, 5] (fun v i wr => ∃ j : Nat, j ≤ 8 ∧ i = .int .i64 (7 - j) ∧ wr.ownsRow base 5 1 v (xs.length + j) ((xs ++ (bys x).take j).map (Value.int .u8)) ∧ Below base w wr) (fun _ i _ => (intOf i + 1).toNat)
  case atStart => exact ⟨0, by omega, by rfl, by simpa using hown, Below.refl _ _⟩
  case round =>
    obtain ⟨j, hj, rfl, hown1, hnx⟩ := hrel
    clear hown
    by_cases hlj : j < 8
    · have d1 : (7 : Int) - j ≥ 0 := by omega
      have hj7 : j ≤ 7 := by omega
      go_wp2_with (at_builtin; refine wpList_append_own _ rfl _ _ 35 rfl base 5 i0 (.int .u8 0) 1 1 Try.underlying35 hi hz0 hz1 hz2 rfl (by decide) _ _ _ rfl (hown1.alloc _) ⟨wr.heap.size, 0, none⟩ 1 1 [.int .u8 (x / 2 ^ (8 * (7 - j)) % 256)] rfl rfl ?c1 ?c2 ?c3 ?c4 ?c5 ?_)
      case c1 => exact cell_one_new _ _ _
      case c2 => simp [Value.oneCell']
      case c3 => unfold maxLen; omega
      case c4 => omega
      case c5 => simp; have := hnx.size; omega
      intro v' w1 hown' hgrow _
      have hyj : (bys x)[j]? = some (x / 2 ^ (8 * (7 - j)) % 256) := by
        have : j = 0 ∨ j = 1 ∨ j = 2 ∨ j = 3 ∨ j = 4 ∨ j = 5 ∨ j = 6 ∨ j = 7 := by omega
        rcases this with rfl | rfl | rfl | rfl | rfl | rfl | rfl | rfl <;> rfl
      have hto : w1.ownsRow base 5 1 v' (xs.length + (j + 1)) ((xs ++ (bys x).take (j + 1)).map (Value.int .u8)) := by
        rw [app_take_succ _ _ _ _ hyj, List.map_append, ← Nat.add_assoc]
        simpa only [List.map_append, List.map_take, List.map_cons, List.map_nil, List.append_assoc] using hown'
      have hnx' : Below base w w1 := (hnx.alloc (by have := hnx.size; omega) _).grown hgrow (by simp; have := hnx.size; omega) (fun k hk => (hown1.lt k hk).1)
      have HT := Lib.hid hto
      clear hto hown' hgrow hyj hown1
      go_wp2
      go_roundw
      case rel => exact ⟨j + 1, by omega, by go_num, HT.out, hnx'⟩
      case measure => simp [intOf]; omega
    · obtain rfl : j = 8 := by omega
      go_wp2
      go_ret
      exact ⟨_, rfl, by rw [List.take_of_length_le (by omega)] at hown1; exact hown1, hnx⟩

theorem ints_own {w : World} {base e n : Nat} {k : IntKind} {v : Value} {xs : List Int} (h : w.ownsRow base e 1 v n (xs.map (Value.int k))) : ∃ a c, v = .slice a xs.length c ∧ Ints k w a xs := by
  have hl := h.1
  simp at hl
  rcases h.2 with ⟨rfl, rfl⟩ | ⟨g, cap, cur, rfl, h1, h2, h3, h4, h5, h6⟩
  · have : xs = [] := List.eq_nil_of_length_eq_zero hl
    subst this
    exact ⟨_, _, rfl, .inl rfl⟩
  · subst hl
    refine ⟨_, _, rfl, .inr ⟨_, rfl, fun i hi => ?_⟩⟩
    rw [h.cells (g := g) rfl i (.int k (xs.getD i 0)) (by simp [hi])]

theorem byAt_range (x : Int) (s : Nat) : 0 ≤ byAt x s ∧ byAt x s ≤ 255 := by unfold byAt; omega
theorem bys_all (x : Int) : AllB (bys x) := by
  intro y hy
  unfold bys at hy
  obtain ⟨s, _, rfl⟩ := List.mem_map.1 hy
  exact byAt_range x s

set_option maxHeartbeats 800000 in
theorem rnode_any (a b : Int) (w : World) :
    Calls Try.prog 23 #[.int .u64 a, .int .u64 b] w fun e w' => e = .returned (.int .u64 (nodeOf a b)) ∧ Below w.heap.size w w' := by
  go_enter Try.func23, Try.ntmps23
  go_wp2_with fail
  refine (rbytes_any w.heap.size _ [1] a _ ?h1 (by simp) (by simp)).mono ?_
  case h1 => exact World.ownsRow_lit (base := w.heap.size) w #[.int .u8 1] 1 (Nat.le_refl _) (by unfold maxLen; omega) rfl
  rintro e w1 ⟨v1, rfl, hown1, hb1⟩
  go_wp2_with fail
  refine (rbytes_any w.heap.size v1 ([1] ++ bys a) b w1 hown1 (by have := hb1.size; simp at this; omega) (by simp [bys])).mono ?_
  rintro e w2 ⟨v2, rfl, hown2, hb2⟩
  obtain ⟨a2, c2, rfl, hi2⟩ := ints_own hown2
  go_wp2_with fail
  refine (rhash_any a2 c2 ([1] ++ bys a ++ bys b) w2 hi2 ?h2 (by simp [bys])).mono ?_
  case h2 =>
    intro x hx
    rcases List.mem_append.1 hx with hx | hx
    · rcases List.mem_append.1 hx with hx | hx
      · simp at hx; omega
      · exact bys_all _ _ hx
    · exact bys_all _ _ hx
  rintro e w3 ⟨rfl, rfl⟩
  go_wp2
  go_ret
  exact ⟨ret_int (by simp only [nodeOf, List.cons_append, List.nil_append, List.foldl_cons, List.foldl_append]), (((Below.refl _ _).alloc (Nat.le_refl _) _).trans hb1).trans hb2⟩

theorem wpList_append_ints {P : Program} (w : World) {ops : Array Oper} {rest : List Oper} {o : Oper} {a : Act} {Q : Exit → Act → World → Prop} (hgd : o.guard = none) (s x : Operand) (t : TypeId)
    (ho : o.op = .call { callee := .builtin .append, args := #[s, x], argTypes := #[t, t] })
    (base : Nat) (e : TypeId) (i : TypeInfo) (z : Value) (bytes : Nat) (ht : P.underlying t = some (.slice e)) (hi : P.info? e = some i) (hz : i.zero = some z)
    (hsize : i.size = 1) (hby : i.bytes = bytes) (hzs : z.cells.size = 1)
    (v : Value) (n : Nat) (xs : List Value) (hs : a.eval s = v) (hown : w.ownsRow base e 1 v n xs)
    (k : IntKind) (A : Option Addr) (c : Nat) (ys : List Int) (hx : a.eval x = .slice A ys.length c) (hr : Ints k w A ys) (hnil : A = none → c = 0)
    (h63 : n + ys.length ≤ maxLen) (hbytes : (n + ys.length) * bytes ≤ 140737488355328) (hbase : base ≤ w.heap.size)
    (h : ∀ v' w', w'.ownsRow base e 1 v' (n + ys.length) (xs ++ ys.map (Value.int k)) → w.grownBy w' v.ownBlock → wpList P ops Q rest (a.put o.dst v') w') : wpList P ops Q (o :: rest) a w := by
  cases A with
  | none =>
    obtain rfl : c = 0 := hnil rfl
    obtain rfl : ys = [] := by
      rcases hr with h | ⟨_, h, _⟩
      · exact h
      · cases h
    exact wpList_append_own_none hgd s x t ho base e i 1 ht hi v n xs hs hown hx (h v w (by simpa using hown) (World.grownBy.refl _ _))
  | some ad =>
    refine wpList_append_own w hgd s x t ho base e i z 1 bytes ht hi hz hsize hby hzs (by decide) v n xs hs hown ad ys.length c (ys.map (Value.int k)) hx (by simp) ?_ (ints_oneCell k ys) h63 hbytes hbase fun v' w' h1 h2 _ => h v' w' h1 h2
    intro j u hj
    rcases hr with rfl | ⟨x, hx, hr⟩
    · simp at hj
    · cases hx
      obtain ⟨hl, rfl⟩ := List.getElem?_eq_some_iff.1 hj
      simp at hl
      rw [hr j hl]; simp [hl]

theorem Ints.below {k : IntKind} {w w' : World} {a : Option Addr} {xs : List Int} (h : Ints k w a xs) (hb : Below w.heap.size w w') : Ints k w' a xs := by
  rcases h with rfl | ⟨x, hx, h⟩
  · exact .inl rfl
  · refine .inr ⟨x, hx, fun i hi => ?_⟩
    have := h i hi
    rw [hb.cell (World.block_lt_of_cell? _ _ this)]; exact this

set_option maxHeartbeats 800000 in
theorem rleaf_any (a : Option Addr) (c : Nat) (xs : List Int) (w : World) (hx : Ints .u8 w a xs) (hnil : a = none → c = 0) (hb : AllB xs) (hl : xs.length ≤ 140737488351000) :
    Calls Try.prog 21 #[.slice a xs.length c] w fun e w' => e = .returned (.int .u64 (leafOf xs)) ∧ Below w.heap.size w w' := by
  obtain ⟨i0, hi, hz0, hz1, hz2⟩ := info_parts info5
  have hown : (w.alloc (.cells #[.int .u8 0] 5)).ownsRow w.heap.size 5 1 (.slice (some ⟨w.heap.size, 0, none⟩) 1 1) 1 [.int .u8 0] := World.ownsRow_lit (base := w.heap.size) w #[.int .u8 0] 1 (Nat.le_refl _) (by unfold maxLen; omega) rfl
  have hx' : Ints .u8 (w.alloc (.cells #[.int .u8 0] 5)) a xs := hx.below ((Below.refl _ _).alloc (Nat.le_refl _) _)
  go_enter Try.func21, Try.ntmps21
  go_wp2_with (at_builtin; refine wpList_append_ints _ rfl _ _ 35 rfl w.heap.size 5 i0 (.int .u8 0) 1 Try.underlying35 hi hz0 hz1 hz2 rfl _ _ _ rfl hown .u8 a c xs rfl hx' hnil ?c1 ?c2 ?c3 ?_)
  case c1 => unfold maxLen; omega
  case c2 => omega
  case c3 => simp
  intro v' w1 hown1 hgrow
  obtain ⟨a2, c2, rfl, hi2⟩ := ints_own (xs := 0 :: xs) (by simpa using hown1)
  have hb1 : Below w.heap.size w w1 := ((Below.refl _ _).alloc (Nat.le_refl _) _).grown hgrow (by simp) (fun k hk => (hown.lt k hk).1)
  go_wp2_with fail
  refine (rhash_any a2 c2 (0 :: xs) w1 hi2 ?h2 (by simp; omega)).mono ?_
  case h2 =>
    intro x hx
    rcases List.mem_cons.1 hx with rfl | hx
    · omega
    · exact hb _ hx
  rintro e w3 ⟨rfl, rfl⟩
  go_wp2
  go_ret
  exact ⟨ret_int (by simp only [leafOf, List.foldl_cons]), hb1⟩
end Go.Proofs.Ytibakdebmclkiaa
