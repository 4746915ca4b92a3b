/- The contracts of the roots of trees, of the program and of the reference: both return one function of the leaves. -/
import Derived.Test.YtibakdebmclkiaaA2
namespace Go.Proofs.Ytibakdebmclkiaa
open Go.RowKit
set_option linter.unusedVariables false
set_option linter.unusedSimpArgs false

/-- The root of a tree. -/
def rootOf (l : List Int) : Int :=
  if h0 : l.length = 0 then 14695981039346656037
  else if h1 : l.length = 1 then l.getD 0 0
  else nodeOf (rootOf (l.take (splitOf l.length))) (rootOf (l.drop (splitOf l.length)))
termination_by l.length
decreasing_by
  · have := splitOf_lt (n := l.length) (by omega); rw [List.length_take]; omega
  · have := splitOf_pos l.length; rw [List.length_drop]; omega

theorem Ints.take {k : IntKind} {w : World} {a : Option Addr} {xs : List Int} (h : Ints k w a xs) (n : Nat) : Ints k w a (xs.take n) := by
  rcases h with rfl | ⟨x, hx, h⟩
  · exact .inl (by simp)
  · refine .inr ⟨x, hx, fun i hi => ?_⟩
    rw [List.length_take] at hi
    rw [h i (by omega)]
    have h1 : i < xs.length := by omega
    have h2 : i < n := by omega
    simp [h1, h2]

theorem add_add (x : Addr) (m i : Nat) : (x.add m).add i = x.add (m + i) := by
  unfold Addr.add
  by_cases h1 : m = 0
  · subst h1; simp
  · by_cases h2 : i = 0
    · subst h2; simp
    · simp [h1, h2, Nat.add_assoc]

theorem take_run {P : Program} (t e : TypeId) {i : TypeInfo} (ht : P.underlying t = some (.slice e)) (hi : P.info? e = some i) (kl : IntKind) (A : Option Addr) (n c m : Nat) (hm : m ≤ c) (W : World) :
    (Instr.slice t (.slice A n c) none (some (.int kl m)) none).run P W = .ok (.slice A m c) W := by
  have hel : P.elem t = e := by simp [Program.elem, ht]
  have hu : P.underlying t = some (.slice (P.elem t)) := by rw [hel]; exact ht
  have ha : (A.map fun x => x.add 0) = A := by cases A <;> simp [Addr.add]
  rw [run_slice_h W t A n c hu kl m (by omega) (by omega), hel]
  simp [sizeOf, typeInfo, hi, sliced, Result.andThen, ha]

theorem drop_run {P : Program} (t e : TypeId) {i : TypeInfo} (ht : P.underlying t = some (.slice e)) (hi : P.info? e = some i) (kl : IntKind) (A : Option Addr) (n c m : Nat) (hm : m ≤ n) (W : World) :
    (Instr.slice t (.slice A n c) (some (.int kl m)) none none).run P W = .ok (.slice (if c = m then A else A.map (·.add (m * i.size))) (n - m) (c - m)) W := by
  have hel : P.elem t = e := by simp [Program.elem, ht]
  have hu : P.underlying t = some (.slice (P.elem t)) := by rw [hel]; exact ht
  rw [run_slice_l W t A n c hu kl m (by omega) (by omega), hel]
  simp [sizeOf, typeInfo, hi, sliced, Result.andThen]

theorem Ints.drop {k : IntKind} {w : World} {a : Option Addr} {xs : List Int} (h : Ints k w a xs) (m c : Nat) (hc : xs.length ≤ c) : Ints k w (if c = m then a else a.map (·.add (m * 1))) (xs.drop m) := by
  by_cases hm : xs.length ≤ m
  · exact .inl (List.drop_eq_nil_of_le hm)
  · rw [if_neg (by omega)]
    rcases h with rfl | ⟨x, rfl, h⟩
    · exact .inl (by simp)
    · refine .inr ⟨x.add m, by simp, fun i hi => ?_⟩
      rw [List.length_drop] at hi
      rw [add_add, h _ (by omega)]
      have h1 : m + i < xs.length := by omega
      simp [h1]

theorem info24 : (Try.prog.info? 24).map (fun i => (i.zero, i.size, i.bytes)) = some (some (.int .u64 0), 1, 8) := by kernel_rfl

/-- What a slice of a slice of numbers reads as. -/
structure Cuts (t : TypeId) (k : IntKind) (A : Option Addr) (c : Nat) (xs : List Int) (m : Nat) (A' : Option Addr) : Prop where
  lo : ∀ W : World, (Instr.slice t (.slice A xs.length c) none (some (.int .i64 m)) none).run Try.prog W = .ok (.slice A (xs.take m).length c) W
  hi : ∀ W : World, (Instr.slice t (.slice A xs.length c) (some (.int .i64 m)) none none).run Try.prog W = .ok (.slice A' (xs.drop m).length (c - m)) W
  loI : ∀ w : World, Ints k w A xs → Ints k w A (xs.take m)
  hiI : ∀ w : World, Ints k w A xs → Ints k w A' (xs.drop m)
  loL : (xs.take m).length ≤ c
  hiL : (xs.drop m).length ≤ c - m
  nil : (A = none → c = 0) → A' = none → c - m = 0

theorem cuts (A : Option Addr) (c : Nat) (xs : List Int) (m : Nat) (hm : m ≤ xs.length) (hc : xs.length ≤ c) : ∃ A', Cuts 22 .u64 A c xs m A' := by
  obtain ⟨i0, hi, hz0, hz1, hz2⟩ := info_parts info24
  refine ⟨if c = m then A else A.map (·.add (m * 1)), fun W => ?_, fun W => ?_, fun w h => h.take m, fun w h => h.drop m c hc, by rw [List.length_take]; omega, by rw [List.length_drop]; omega, fun h h' => ?_⟩
  · rw [take_run 22 24 Try.underlying22 hi .i64 A xs.length c m (by omega) W, List.length_take, Nat.min_eq_left hm]
  · rw [drop_run 22 24 Try.underlying22 hi .i64 A xs.length c m hm W, List.length_drop, hz1]
  · by_cases e : c = m
    · omega
    · rw [if_neg e] at h'
      cases A with
      | none => have := h rfl; omega
      | some x => simp at h'

theorem Below.next {B : Nat} {w wx w' : World} (h : Below B w wx) (k : Below wx.heap.size wx w') (hB : B ≤ w.heap.size := by exact Nat.le_refl _) : Below B w w' :=
  h.trans (k.mono (Nat.le_trans hB h.size))

set_option maxHeartbeats 800000 in
theorem root_any (d : Nat) : ∀ (a : Option Addr) (c : Nat) (xs : List Int) (w : World), xs.length ≤ d → Ints .u64 w a xs → xs.length ≤ c → xs.length ≤ 140737488351000 →
    Calls Try.prog 11 #[.slice a xs.length c] w fun e w' => e = .returned (.int .u64 (rootOf xs)) ∧ Below w.heap.size w w' := by
  induction d with
  | zero =>
    intro a c xs w hd hx hc hl
    obtain rfl : xs = [] := List.eq_nil_of_length_eq_zero (by omega)
    go_enter Try.func11, Try.ntmps11
    go_wp2
    go_ret
    exact ⟨ret_int (by rw [rootOf]; rfl), Below.refl _ _⟩
  | succ d ih =>
    intro a c xs w hd hx hc hl
    by_cases h0 : xs.length = 0
    · obtain rfl : xs = [] := List.eq_nil_of_length_eq_zero (by omega)
      go_enter Try.func11, Try.ntmps11
      go_wp2
      go_ret
      exact ⟨ret_int (by rw [rootOf]; rfl), Below.refl _ _⟩
    · by_cases h1 : xs.length = 1
      · obtain ⟨y, rfl⟩ : ∃ y, xs = [y] := List.length_eq_one_iff.1 h1
        obtain ⟨x, rfl, hcell⟩ := hx.at (i := 0) (by simp)
        have hc0 : w.cell? x = some (.int .u64 y) := hcell
        clear hx hcell
        go_enter Try.func11, Try.ntmps11
        go_wp2
        go_ret
        exact ⟨ret_int (by rw [rootOf]; rfl), Below.refl _ _⟩
      · have q0 : ((xs.length : Int) == 0) = false := beq_eq_false_iff_ne.2 (by omega)
        have q1 : ((xs.length : Int) == 1) = false := beq_eq_false_iff_ne.2 (by omega)
        have s1 := splitOf_lt (n := xs.length) (by omega)
        have s2 := splitOf_pos xs.length
        obtain ⟨a', hcut⟩ := cuts a c xs (splitOf xs.length) (by omega) hc
        have hcl := hcut.lo
        have hch := hcut.hi
        have l1 := List.length_take (l := xs) (i := splitOf xs.length)
        have l2 := List.length_drop (l := xs) (i := splitOf xs.length)
        have i1 : ∀ wx, Below w.heap.size w wx → Calls Try.prog 11 #[.slice a (xs.take (splitOf xs.length)).length c] wx fun e w' => e = .returned (.int .u64 (rootOf (xs.take (splitOf xs.length)))) ∧ Below w.heap.size w w' :=
          fun wx hb => (ih a c _ wx (by rw [l1]; omega) ((hcut.loI w hx).below hb) hcut.loL (by rw [l1]; omega)).mono fun e w' h => ⟨h.1, Below.next hb h.2⟩
        have i2 : ∀ wx, Below w.heap.size w wx → Calls Try.prog 11 #[.slice a' (xs.drop (splitOf xs.length)).length (c - splitOf xs.length)] wx fun e w' => e = .returned (.int .u64 (rootOf (xs.drop (splitOf xs.length)))) ∧ Below w.heap.size w w' :=
          fun wx hb => (ih a' (c - splitOf xs.length) _ wx (by rw [l2]; omega) ((hcut.hiI w hx).below hb) hcut.hiL (by rw [l2]; omega)).mono fun e w' h => ⟨h.1, Below.next hb h.2⟩
        have i3 : ∀ x y wx, Below w.heap.size w wx → Calls Try.prog 22 #[.int .u64 x, .int .u64 y] wx fun e w' => e = .returned (.int .u64 (nodeOf x y)) ∧ Below w.heap.size w w' :=
          fun x y wx hb => (node_any x y wx).mono fun e w' h => ⟨h.1, Below.next hb h.2⟩
        have I1 := Lib.hid i1
        have I2 := Lib.hid i2
        have I3 := Lib.hid i3
        have HF : rootOf xs = nodeOf (rootOf (xs.take (splitOf xs.length))) (rootOf (xs.drop (splitOf xs.length))) := by
          conv => lhs; rw [rootOf]
          rw [dif_neg h0, dif_neg h1]
        rw [HF]
        clear i1 i2 i3 l1 l2 HF ih hcut
        generalize xs.take (splitOf xs.length) = lo at *
        generalize xs.drop (splitOf xs.length) = hi at *
        go_enter Try.func11, Try.ntmps11
        go_wp2_with (first | (go_at_call 28; refine (split_any _ _ (by omega) (by omega)).mono ?_; rintro e w' ⟨rfl, rfl⟩))
        go_region_held3 (fun wx => Below w.heap.size w wx) (with_reducible first | assumption | exact (Below.refl _ _).drew | exact Below.refl _ _) (first | (go_at_call 11; (with_reducible refine (I1.out _ ?_).mono ?_); (with_reducible assumption); rintro e w1 ⟨rfl, hb1⟩) | (go_at_call 11; (with_reducible refine (I2.out _ ?_).mono ?_); (with_reducible assumption); rintro e w1 ⟨rfl, hb1⟩) | (go_at_call 22; (with_reducible refine (I3.out _ _ _ ?_).mono ?_); (with_reducible assumption); rintro e w1 ⟨rfl, hb1⟩))
        go_wp2
        go_ret
        exact ⟨rfl, hb1⟩
end Go.Proofs.Ytibakdebmclkiaa
