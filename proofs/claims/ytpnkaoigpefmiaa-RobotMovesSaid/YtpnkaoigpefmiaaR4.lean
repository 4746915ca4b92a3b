/- Robots: words; Empty in the reference. -/
import Derived.Test.YtpnkaoigpefmiaaR3
namespace Go.Proofs.Ytpnkaoigpefmiaa
open Go.RowKit
set_option linter.unusedVariables false
set_option linter.unusedSimpArgs false

def E0 : ByteArray := { data := #[] }
structure Rb where
  pos : Int
  failed : Bool
  slots : List ByteArray
  port : ByteArray
  hand : ByteArray
def Rb.val (r : Rb) (a : Option Addr) (c : Nat) : Value := .agg #[.int .i64 r.pos, .bool r.failed, .slice a r.slots.length c, .string r.port, .string r.hand]
def Strs (w : World) (a : Option Addr) (ss : List ByteArray) : Prop := Vals w a (ss.map Value.string)
theorem Strs.below {w w' : World} {a : Option Addr} {ss : List ByteArray} (h : Strs w a ss) (hb : Below w.heap.size w w') : Strs w' a ss := Vals.below h hb
theorem Strs.at {w : World} {a : Option Addr} {ss : List ByteArray} (h : Strs w a ss) {i : Nat} (hi : i < ss.length) : ∃ x, a = some x ∧ w.cell? (x.add i) = some (.string ss[i]) :=
  Vals.at h (v := .string ss[i]) (by simp [hi])
/-- A boxed robot. -/
structure RB (B : Nat) (r : Rb) (a : Option Addr) (c : Nat) (wx : World) : Prop where
  lt : B < wx.heap.size
  g0 : wx.cell? ⟨B, 0, none⟩ = some (.int .i64 r.pos)
  g1 : wx.cell? ⟨B, 1, none⟩ = some (.bool r.failed)
  g2 : wx.cell? ⟨B, 2, none⟩ = some (.slice a r.slots.length c)
  g3 : wx.cell? ⟨B, 3, none⟩ = some (.string r.port)
  g4 : wx.cell? ⟨B, 4, none⟩ = some (.string r.hand)
theorem RB.next {B : Nat} {r : Rb} {a : Option Addr} {c : Nat} {w1 w2 : World} (h : RB B r a c w1) (hb : Below w1.heap.size w1 w2) : RB B r a c w2 := by
  obtain ⟨lt, g0, g1, g2, g3, g4⟩ := h
  have := hb.size
  exact ⟨by omega, by rw [hb.cell lt]; exact g0, by rw [hb.cell lt]; exact g1, by rw [hb.cell lt]; exact g2, by rw [hb.cell lt]; exact g3, by rw [hb.cell lt]; exact g4⟩
theorem RB.start (w : World) (r : Rb) (a : Option Addr) (c : Nat) : RB w.heap.size r a c (w.alloc (.cells #[.int .i64 r.pos, .bool r.failed, .slice a r.slots.length c, .string r.port, .string r.hand] 26)) :=
  ⟨by simp, by rw [World.cell?_alloc_mark]; rfl, by rw [World.cell?_alloc_mark]; rfl, by rw [World.cell?_alloc_mark]; rfl, by rw [World.cell?_alloc_mark]; rfl, by rw [World.cell?_alloc_mark]; rfl⟩

theorem size_zero {s : ByteArray} : s.size = 0 ↔ s = E0 := by
  constructor
  · intro h
    have : s.data = #[] := Array.eq_empty_of_size_eq_zero h
    cases s; simp only at this; rw [this]; rfl
  · rintro rfl; rfl
theorem ne_isEmpty {s : ByteArray} (h : s ≠ E0) : s.toList.isEmpty = false := by
  rw [ByteArray.toList_eq]
  cases hs : s.data.toList with
  | nil => exact absurd (size_zero.1 (by have h2 := congrArg List.length hs; simpa using h2)) h
  | cons a b => rfl
/-- The first empty slot. -/
def emptyOf (ss : List ByteArray) : Nat × Bool := if ss.findIdx (fun s => decide (s.size = 0)) < ss.length then (ss.findIdx (fun s => decide (s.size = 0)), true) else (0, false)
theorem emptyOf_at {ss : List ByteArray} {k : Nat} (hk : k < ss.length) (h1 : ∀ j (h : j < k) (h2 : j < ss.length), ss[j] ≠ E0) (h2 : ss[k] = E0) : emptyOf ss = (k, true) := by
  have : ss.findIdx (fun s => decide (s.size = 0)) = k := by
    rw [List.findIdx_eq hk]
    exact ⟨by rw [h2]; rfl, fun j hj => by
      have := h1 j hj (by omega)
      exact decide_eq_false (fun h => this (size_zero.1 h))⟩
  rw [emptyOf, this, if_pos hk]
theorem emptyOf_none {ss : List ByteArray} (h1 : ∀ j (h : j < ss.length), ss[j] ≠ E0) : emptyOf ss = (0, false) := by
  have : ¬ ss.findIdx (fun s => decide (s.size = 0)) < ss.length := by
    intro h
    have h2 := List.findIdx_getElem (w := h)
    exact h1 _ h (size_zero.1 (of_decide_eq_true h2))
  rw [emptyOf, if_neg this]
set_option maxRecDepth 100000 in
set_option maxHeartbeats 4000000 in
theorem rempty_any (r : Rb) (a : Option Addr) (c : Nat) (w : World) (hx : Strs w a r.slots) (hc : r.slots.length ≤ c) (hl : r.slots.length ≤ 1000000) :
    Calls Try.prog 25 #[r.val a c] w fun e w' => e = .returned (.tuple #[.int .i64 (emptyOf r.slots).1, .bool (emptyOf r.slots).2]) ∧ Below w.heap.size w w' := by
  have R0 := RB.start w r a c
  have hx1 := hx.below (below_alloc (Below.refl _ _) (.cells #[.int .i64 r.pos, .bool r.failed, .slice a r.slots.length c, .string r.port, .string r.hand] 26))
  unfold Rb.val
  have g2 := R0.g2
  go_enter Try.func25, Try.ntmps25
  go_wp2
  go_loopw [4] (fun i wr => ∃ k : Nat, i = .int .i64 k ∧ k ≤ r.slots.length ∧ Hid (∀ j (h : j < k) (h2 : j < r.slots.length), r.slots[j] ≠ E0) ∧ wr = w.alloc (.cells #[.int .i64 r.pos, .bool r.failed, .slice a r.slots.length c, .string r.port, .string r.hand] 26)) (fun i _ => r.slots.length - (intOf i).toNat)
  case atStart => exact ⟨0, rfl, by omega, Lib.hid fun j h => absurd h (by omega), rfl⟩
  case round =>
    obtain ⟨k, rfl, hk, HQ, rfl⟩ := hrel
    by_cases h : k < r.slots.length
    · obtain ⟨x, rfl, hcell⟩ := hx1.at h
      by_cases he : r.slots[k] = E0
      · have HV := Lib.hid (emptyOf_at h HQ.out he)
        rw [he] at hcell
        unfold E0 at hcell
        go_wp2
        go_ret2
        exact ⟨by rw [HV.out]; rfl, below_alloc (Below.refl _ _) _⟩
      · have HE := Lib.hid he
        have hes := ne_isEmpty he
        generalize hs : r.slots[k] = s at *
        clear he
        go_wp2
        go_roundw
        case rel => exact ⟨k + 1, by go_num, by omega, Lib.hid fun j h1 h2 => by
            by_cases hj : j = k
            · subst hj; rw [hs]; exact HE.out
            · exact HQ.out j (by omega) h2, trivial⟩
        case measure => simp [intOf]; omega
    · have HV := Lib.hid (emptyOf_none fun j hj => HQ.out j (by omega) hj)
      go_wp2
      go_ret2
      exact ⟨by rw [HV.out]; rfl, below_alloc (Below.refl _ _) _⟩
end Go.Proofs.Ytpnkaoigpefmiaa
