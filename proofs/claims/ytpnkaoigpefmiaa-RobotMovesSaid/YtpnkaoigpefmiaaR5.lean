/- Find in the reference. -/
import Derived.Test.YtpnkaoigpefmiaaR4
namespace Go.Proofs.Ytpnkaoigpefmiaa
open Go.RowKit
set_option linter.unusedVariables false
set_option linter.unusedSimpArgs false

/-- Where a barcode is: the element's kind and index, and whether it is. -/
def findOf (r : Rb) (b : ByteArray) : Int × Int × Bool :=
  if b.size = 0 then (0, 0, false)
  else if r.slots.findIdx (fun s => decide (s = b)) < r.slots.length then (0, r.slots.findIdx (fun s => decide (s = b)), true)
  else if r.port = b then (2, 0, true)
  else if r.hand = b then (3, 0, true)
  else (0, 0, false)
theorem findIdx_at {ss : List ByteArray} {b : ByteArray} {k : Nat} (hk : k < ss.length) (h1 : ∀ j (h : j < k) (h2 : j < ss.length), ss[j] ≠ b) (h2 : ss[k] = b) : ss.findIdx (fun s => decide (s = b)) = k := by
  rw [List.findIdx_eq hk]
  exact ⟨decide_eq_true h2, fun j hj => decide_eq_false (h1 j hj (by omega))⟩
theorem findIdx_none {ss : List ByteArray} {b : ByteArray} (h1 : ∀ j (h : j < ss.length), ss[j] ≠ b) : ¬ ss.findIdx (fun s => decide (s = b)) < ss.length := by
  intro h
  have h2 := List.findIdx_getElem (w := h)
  exact h1 _ h (of_decide_eq_true h2)
theorem eq_str {s t : ByteArray} (h : s = t) : (s.toList == t.toList) = true := by subst h; simp
theorem ne_str {s t : ByteArray} (h : s ≠ t) : (s.toList == t.toList) = false := by
  rw [ByteArray.toList_eq, ByteArray.toList_eq]
  exact beq_eq_false_iff_ne.2 fun e => h (Go.WideShapes.bytes_inj e)
set_option maxRecDepth 100000 in
set_option maxHeartbeats 4000000 in
theorem rfind_any (r : Rb) (a : Option Addr) (c : Nat) (b : ByteArray) (w : World) (hx : Strs w a r.slots) (hc : r.slots.length ≤ c) (hl : r.slots.length ≤ 1000000) :
    Calls Try.prog 23 #[r.val a c, .string b] w fun e w' => e = .returned (.tuple #[.agg #[.int .i64 (findOf r b).1, .int .i64 (findOf r b).2.1], .bool (findOf r b).2.2]) ∧ Below w.heap.size w w' := by
  have hb1 : Below w.heap.size w (w.alloc (.cells #[.int .i64 r.pos, .bool r.failed, .slice a r.slots.length c, .string r.port, .string r.hand] 26)) := below_alloc (Below.refl _ _) _
  have hx1 := (hx.below hb1).below (below_alloc (Below.refl _ _) (.cells #[.int .i64 0, .int .i64 0] 28))
  unfold Rb.val
  by_cases hb : b.size = 0
  · have hv : findOf r b = (0, 0, false) := by rw [findOf, if_pos hb]
    have HV := Lib.hid hv
    have hbe : b.toList.isEmpty = true := by rw [ByteArray.toList_eq, size_zero.1 hb]; rfl
    clear hv hb
    go_enter Try.func23, Try.ntmps23
    go_wp2
    refine bodyPost_ret (v := .tuple #[.agg #[.int .i64 0, .int .i64 0], .bool false]) (by simp [results, Try.results23, go_sem]) rfl ⟨by rw [HV.out], below_alloc hb1 _⟩
  have hbe := ne_isEmpty (fun h => hb (size_zero.2 h))
  go_enter Try.func23, Try.ntmps23
  go_wp2
  go_loopw [6] (fun i wr => ∃ k : Nat, i = .int .i64 k ∧ k ≤ r.slots.length ∧ Hid (∀ j (h : j < k) (h2 : j < r.slots.length), r.slots[j] ≠ b) ∧ wr = ((w.alloc (.cells #[.int .i64 r.pos, .bool r.failed, .slice a r.slots.length c, .string r.port, .string r.hand] 26)).alloc (.cells #[.int .i64 0, .int .i64 0] 28))) (fun i _ => r.slots.length - (intOf i).toNat)
  case atStart => exact ⟨0, rfl, by omega, Lib.hid fun j h => absurd h (by omega), rfl⟩
  case round =>
    obtain ⟨k, rfl, hk, HQ, rfl⟩ := hrel
    by_cases h : k < r.slots.length
    · obtain ⟨x, rfl, hcell⟩ := hx1.at h
      by_cases he : r.slots[k] = b
      · have hfi := findIdx_at h HQ.out he
        have hv : findOf r b = ((0 : Int), (k : Int), true) := by rw [findOf, if_neg hb, hfi, if_pos h]
        have HV := Lib.hid hv
        rw [he] at hcell
        have hq := eq_str (rfl : b = b)
        clear hv hfi he
        go_wp2
        refine bodyPost_ret (v := .tuple #[.agg #[.int .i64 0, .int .i64 k], .bool true]) (by simp [results, Try.results23, go_sem]) rfl ⟨by rw [HV.out], (by first | exact below_alloc hb1 _ | exact (below_alloc hb1 _).setCell (by simp) _ | exact ((below_alloc hb1 _).setCell (by simp) _).setCell (by simp) _)⟩
      · have HE := Lib.hid he
        have hes := ne_str he
        generalize hs : r.slots[k] = s at *
        clear he
        go_wp2
        go_roundw
        case rel => exact ⟨k + 1, by go_num, by omega, Lib.hid fun j h1 h2 => by
            by_cases hj : j = k
            · subst hj; rw [hs]; exact HE.out
            · exact HQ.out j (by omega) h2, trivial⟩
        case measure => simp [intOf]; omega
    · have hfi := findIdx_none (b := b) fun j hj => HQ.out j (by omega) hj
      by_cases hp : r.port = b
      · have hv : findOf r b = (2, 0, true) := by rw [findOf, if_neg hb, if_neg hfi, if_pos hp]
        have HV := Lib.hid hv
        have hq := eq_str hp
        clear hv hfi hp
        go_wp2
        refine bodyPost_ret (v := .tuple #[.agg #[.int .i64 2, .int .i64 0], .bool true]) (by simp [results, Try.results23, go_sem]) rfl ⟨by rw [HV.out], (by first | exact below_alloc hb1 _ | exact (below_alloc hb1 _).setCell (by simp) _ | exact ((below_alloc hb1 _).setCell (by simp) _).setCell (by simp) _)⟩
      have hqp := ne_str hp
      by_cases hh : r.hand = b
      · have hv : findOf r b = (3, 0, true) := by rw [findOf, if_neg hb, if_neg hfi, if_neg hp, if_pos hh]
        have HV := Lib.hid hv
        have hq := eq_str hh
        clear hv hfi hp hh
        go_wp2
        refine bodyPost_ret (v := .tuple #[.agg #[.int .i64 3, .int .i64 0], .bool true]) (by simp [results, Try.results23, go_sem]) rfl ⟨by rw [HV.out], (by first | exact below_alloc hb1 _ | exact (below_alloc hb1 _).setCell (by simp) _ | exact ((below_alloc hb1 _).setCell (by simp) _).setCell (by simp) _)⟩
      · have hqh := ne_str hh
        have hv : findOf r b = (0, 0, false) := by rw [findOf, if_neg hb, if_neg hfi, if_neg hp, if_neg hh]
        have HV := Lib.hid hv
        clear hv hfi hp hh
        go_wp2
        refine bodyPost_ret (v := .tuple #[.agg #[.int .i64 0, .int .i64 0], .bool false]) (by simp [results, Try.results23, go_sem]) rfl ⟨by rw [HV.out], below_alloc hb1 _⟩
end Go.Proofs.Ytpnkaoigpefmiaa
