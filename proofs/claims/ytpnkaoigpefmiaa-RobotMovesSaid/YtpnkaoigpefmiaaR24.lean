/- slices.Clone, and cell. -/
import Derived.Test.YtpnkaoigpefmiaaR23
import Derived.RegionTactic
import Derived.ChangeAlike
namespace Go.Proofs.Ytpnkaoigpefmiaa
open Go.RowKit
set_option linter.unusedVariables false
set_option linter.unusedSimpArgs false

theorem Blk.set {W : World} {B : Nat} {t : TypeId} {cs : Array Value} (h : Blk W B t cs) (j : Nat) (v : Value) : Blk (W.setCell ⟨B, j, none⟩ v) B t (cs.setIfInBounds j v) := by
  have hlt := h.lt
  have h' : W.heap[B] = .cells cs t (0, 0) := by
    have := h
    unfold Blk at this
    rw [Array.getElem?_eq_getElem hlt] at this
    exact Option.some.inj this
  show (W.heap.modify B _)[B]? = _
  rw [Array.getElem?_eq_getElem (by simpa using hlt), Array.getElem_modify_self, h']
  rfl
theorem Blk.below {W W' : World} {B : Nat} {t : TypeId} {cs : Array Value} (h : Blk W B t cs) (hb : Below W.heap.size W W') : Blk W' B t cs := (hb.block _ h.lt).trans h
theorem ownsStrs {w : World} {base n : Nat} {v : Value} {ss : List ByteArray} (h : w.ownsRow base 9 1 v n (ss.map Value.string)) : ∃ a c, v = .slice a ss.length c ∧ Strs w a ss ∧ ss.length ≤ c ∧ (a = none → c = 0) ∧ n = ss.length := by
  obtain ⟨a, c, hv, hr⟩ := vals_own h
  rw [List.length_map] at hv
  subst hv
  have hn : n = ss.length := by have := h.1; simpa using this.symm
  subst hn
  exact ⟨a, c, rfl, hr, own_cap h, own_nil h, rfl⟩
set_option maxRecDepth 100000 in
set_option maxHeartbeats 4000000 in
theorem clone_any (ss : List ByteArray) (a : Option Addr) (c : Nat) (w : World) (hx : Strs w a ss) (hc : ss.length ≤ c) (hnil : a = none → c = 0) (hl : ss.length ≤ 1000000) :
    Calls Try.prog 43 #[.slice a ss.length c] w fun e w' => ∃ v, e = .returned v ∧ w'.ownsRow w.heap.size 9 1 v ss.length (ss.map Value.string) ∧ Below w.heap.size w w' := by
  obtain ⟨i0, hi, hz0, hz1, hz2⟩ := info_parts info9
  have hq := fun (w : World) (a : Option Addr) (n c n' c' : Nat) => Lib.run_eql_slice_nil (P := Try.prog) w 24 9 a n c n' c' Try.underlying24
  cases a with
  | none =>
    obtain rfl : c = 0 := hnil rfl
    obtain rfl : ss = [] := List.eq_nil_of_length_eq_zero (by omega)
    go_enter Try.func43, Try.ntmps43
    go_wp2
    go_ret
    exact ⟨_, rfl, ⟨by simp, .inl ⟨rfl, rfl⟩⟩, Below.refl _ _⟩
  | some x =>
    have hxv : Vals (w.alloc (.cells #[] 9)) (some x) (ss.map Value.string) := hx.below (below_alloc (Below.refl _ _) _)
    have hown0 : (w.alloc (.cells #[] 9)).ownsRow w.heap.size 9 1 (.slice (some ⟨w.heap.size, 0, none⟩) 0 0) 0 [] := World.ownsRow_lit (base := w.heap.size) (e := 9) (size := 1) w #[] 0 (Nat.le_refl _) (by unfold maxLen; omega) rfl
    go_enter Try.func43, Try.ntmps43
    go_wp2_with (at_builtin; refine wpList_append_vals _ rfl _ _ 24 rfl w.heap.size 9 i0 (.string E0) 16 Try.underlying24 hi hz0 hz1 hz2 rfl _ 0 [] rfl hown0 (some x) c ss.length (ss.map Value.string) (by simp) rfl hxv (strs_oneCell _) hnil (by unfold maxLen; omega) (by omega) (by simp) ?_)
    intro v6 w6 hown6 hgrow6
    have hb6 : Below w.heap.size w w6 := below_app (below_alloc (Below.refl _ _) _) hgrow6 hown0
    have HO := Lib.hid hown6
    clear hown6 hgrow6 hown0 hxv
    go_wp2
    go_ret
    exact ⟨_, rfl, by simpa using HO.out, hb6⟩

set_option maxRecDepth 100000 in
set_option maxHeartbeats 4000000 in
theorem cell_port (B : Nat) (i : Int) (w : World) :
    Calls Try.prog 31 #[.pointer (some ⟨B, 0, none⟩), .agg #[.int .i64 2, .int .i64 i]] w fun e w' => e = .returned (.pointer (some ⟨B, 3, none⟩)) ∧ w' = w.alloc (.cells #[.int .i64 2, .int .i64 i] 28) := by
  go_enter Try.func31, Try.ntmps31
  go_wp2
  go_ret
  exact ⟨rfl, rfl⟩
set_option maxRecDepth 100000 in
set_option maxHeartbeats 4000000 in
theorem cell_none (B : Nat) (k i : Int) (w : World) (h0 : (k == 0) = false) (h2 : (k == 2) = false) :
    Calls Try.prog 31 #[.pointer (some ⟨B, 0, none⟩), .agg #[.int .i64 k, .int .i64 i]] w fun e w' => e = .returned (.pointer none) ∧ w' = w.alloc (.cells #[.int .i64 k, .int .i64 i] 28) := by
  go_enter Try.func31, Try.ntmps31
  go_wp2
  go_ret
  exact ⟨rfl, rfl⟩
set_option maxRecDepth 100000 in
set_option maxHeartbeats 4000000 in
theorem cell_slot (B : Nat) (i n c : Nat) (x : Addr) (w : World) (hB : B < w.heap.size) (hi : i < n) (hn : n ≤ 1000000) (hs : w.cell? ⟨B, 2, none⟩ = some (.slice (some x) n c)) :
    Calls Try.prog 31 #[.pointer (some ⟨B, 0, none⟩), .agg #[.int .i64 0, .int .i64 i]] w fun e w' => e = .returned (.pointer (some (x.add i))) ∧ Below w.heap.size w w' ∧ w'.heap.size = w.heap.size + 1 := by
  have d0 : (0 : Int) ≤ i := by omega
  have d1 : (i : Int) < n := by omega
  go_enter Try.func31, Try.ntmps31
  go_wp2
  go_quiet (fail)
  go_wp2
  go_ret
  exact ⟨rfl, below_drewN (below_alloc (Below.refl _ _) _) _, by show (w.alloc _).heap.size = _; simp⟩
end Go.Proofs.Ytpnkaoigpefmiaa
