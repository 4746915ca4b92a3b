/- The iterator over the places: for every loop body that keeps what lay below n0. -/
import Derived.Test.YtpnkaoigpefmiaaR9
import Derived.RangeFuncNested
import Derived.RangeFuncBound
import Derived.RangeFuncCalls
import Derived.RangeFuncLeaves
import Derived.RangeFuncBox
import Derived.RangeFuncWrites
import Derived.Shelf.Abstract
import Derived.Shelf.RegionOpen
import Derived.OwnWalkIn
import Derived.TacticsInMore
import Derived.LoopNIn
import Derived.LoopIn
namespace Go.Proofs.Ytpnkaoigpefmiaa
open Go.RowKit Go.Shelf
attribute [local go_sem] Oper.semAt_some
set_option linter.unusedVariables false
set_option linter.unusedSimpArgs false

abbrev It := Int × Int × ByteArray
def encIt (x : It) : Array Value := #[.agg #[.int .i64 x.1, .int .i64 x.2.1], .string x.2.2]
def slotsTo (ss : List ByteArray) (k : Nat) : List It := (List.range k).map fun (j : Nat) => ((0 : Int), (j : Int), ss[j]?.getD E0)
def items (r : Rb) : List It := slotsTo r.slots r.slots.length ++ [(2, 0, r.port)] ++ [(3, 0, r.hand)]
theorem slotsTo_succ (ss : List ByteArray) (k : Nat) : slotsTo ss (k + 1) = slotsTo ss k ++ [(0, (k : Int), ss[k]?.getD E0)] := by simp [slotsTo, List.range_succ]
theorem slotsTo_len (ss : List ByteArray) (k : Nat) : (slotsTo ss k).length = k := by simp [slotsTo]
theorem slotsTo_pre (r : Rb) {k : Nat} (hk : k ≤ r.slots.length) : slotsTo r.slots k <+: items r := by
  have : slotsTo r.slots k <+: slotsTo r.slots r.slots.length := by
    unfold slotsTo
    obtain ⟨m, hm⟩ : ∃ m, r.slots.length = k + m := ⟨r.slots.length - k, by omega⟩
    rw [hm, List.range_add, List.map_append]
    exact List.prefix_append _ _
  refine this.trans ?_
  unfold items
  rw [List.append_assoc]
  exact List.prefix_append _ _
set_option maxRecDepth 100000 in
set_option maxHeartbeats 4000000 in
theorem places1_in (F : Fence) (n : Nat) (h45 : F.fn 45) (hro : F.round = none) (hn : 1 ≤ n) (l B n₀ : Nat) (r : Rb) (a : Option Addr) (c : Nat) (hl : r.slots.length ≤ 1000000) (hc : r.slots.length ≤ c) (hB : B < n₀) (J Jx : List It → World → Prop)
    (hY : ∀ pre x W, J pre W → pre.length < r.slots.length + 2 → YieldAt F (n - 1) Try.prog l (encIt x) W fun e W' =>
      (e = .returned (.bool true) ∧ J (pre ++ [x]) W' ∧ Below n₀ W W') ∨ (e = .returned (.bool false) ∧ Jx (pre ++ [x]) W'))
    (W : World) (hR : RB B r a c W) (hs : Strs W a r.slots) (ha : ∀ x, a = some x → r.slots ≠ [] → x.block < n₀) (h0 : J [] W) :
    CallsIn F n Try.prog 45 #[.func (.yield l) #[] #[], .pointer (some ⟨B, 0, none⟩)] W fun e W' => (∃ v, e = .returned v) ∧
      ((∃ ys, ys = items r ∧ J ys W') ∨ (∃ pre, pre <+: items r ∧ Jx pre W')) := by
  refine callsIn_of_wp Try.func45 rfl h45 ?_ hro
  simp only [Try.ntmps45, List.size_toArray, List.length_cons, List.length_nil, Nat.reduceAdd, Nat.reduceSub, Array.replicate_succ, Array.replicate_zero, List.push_toArray, List.append_toArray, List.nil_append, List.cons_append]
  have g2 := hR.g2
  gi_wp2
  gi_loopw [8] (fun i wr => ∃ k : Nat, k ≤ r.slots.length ∧ i = .int .i64 k ∧ J (slotsTo r.slots k) wr ∧ Below n₀ W wr)
    (fun i _ => r.slots.length - (intOf i).toNat)
  case atStart => exact ⟨0, Nat.zero_le _, rfl, h0, Below.refl _ _⟩
  case round =>
    obtain ⟨k, hk, rfl, hJs, hnx⟩ := hrel
    by_cases hlt : k < r.slots.length
    · obtain ⟨x, rfl, hcell⟩ := hs.at hlt
      have hne : r.slots ≠ [] := by rintro e; rw [e] at hlt; simp at hlt
      have hcx : wr.cell? (x.add k) = some (.string r.slots[k]) := by
        rw [hnx.cell (p := x.add k) (by rw [add_block]; exact ha x rfl hne), hcell]
      have hsg : r.slots[k]?.getD E0 = r.slots[k] := by simp [hlt]
      have hss := slotsTo_succ r.slots k
      rw [hsg] at hss
      generalize r.slots[k] = sk at *
      have HSS := Lib.hid hss
      clear hss hsg hcell
      obtain ⟨fn, tmps, assign, body, hy, hRd⟩ := hY _ (0, (k : Int), sk) wr hJs (by rw [slotsTo_len]; omega)
      dsimp only [encIt] at hy
      gi_wp2
      refine hRd.mono ?_
      rintro e W3 (⟨rfl, hJ3, hk3⟩ | ⟨rfl, hJx3⟩)
      · gi_wp2
        go_roundw
        case rel => exact ⟨k + 1, by omega, by simp, by rw [HSS.out]; exact hJ3, hnx.trans hk3⟩
        case measure => simp [intOf]; omega
      · gi_wp2
        refine bodyPost_ret (results_none rfl _ _ _) rfl ?_
        exact ⟨⟨_, rfl⟩, .inr ⟨_, by rw [← HSS.out]; exact slotsTo_pre r (by omega), hJx3⟩⟩
    · obtain rfl : k = r.slots.length := by omega
      obtain ⟨fn, tmps, assign, body, hy, hRd⟩ := hY _ (2, 0, r.port) wr hJs (by rw [slotsTo_len]; omega)
      dsimp only [encIt] at hy
      have g3 : wr.cell? ⟨B, 3, none⟩ = some (.string r.port) := (hnx.cell (p := ⟨B, 3, none⟩) hB).trans hR.g3
      gi_wp2
      refine hRd.mono ?_
      rintro e W3 (⟨rfl, hJ3, hk3⟩ | ⟨rfl, hJx3⟩)
      · obtain ⟨fn2, tmps2, assign2, body2, hy2, hRd2⟩ := hY _ (3, 0, r.hand) W3 hJ3 (by rw [List.length_append, slotsTo_len]; simp)
        dsimp only [encIt] at hy2
        have g4 : W3.cell? ⟨B, 4, none⟩ = some (.string r.hand) := ((hnx.trans hk3).cell (p := ⟨B, 4, none⟩) hB).trans hR.g4
        gi_wp2
        refine hRd2.mono ?_
        rintro e W4 (⟨rfl, hJ4, hk4⟩ | ⟨rfl, hJx4⟩)
        · gi_wp2
          go_end0
          exact ⟨⟨_, rfl⟩, .inl ⟨_, rfl, hJ4⟩⟩
        · gi_wp2
          go_end0
          exact ⟨⟨_, rfl⟩, .inr ⟨_, List.prefix_refl _, hJx4⟩⟩
      · gi_wp2
        go_end0
        exact ⟨⟨_, rfl⟩, .inr ⟨_, List.prefix_append _ _, hJx3⟩⟩
end Go.Proofs.Ytpnkaoigpefmiaa
