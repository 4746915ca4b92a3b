/- places, and the iterator's contract in the form that a range over it asks for. -/
import Derived.Test.YtpnkaoigpefmiaaR10
namespace Go.Proofs.Ytpnkaoigpefmiaa
open Go.RowKit Go.Shelf
attribute [local go_sem] Oper.semAt_some
set_option linter.unusedVariables false
set_option linter.unusedSimpArgs false

set_option maxHeartbeats 1000000 in
theorem places_in (F : Fence) (n : Nat) (h38 : F.fn 38) (hro : F.round = none) (r : Rb) (a : Option Addr) (c : Nat) (w : World) :
    CallsIn F n Try.prog 38 #[r.val a c] w fun e w' => e = .returned (.func (.func 45) #[] #[.pointer (some ⟨w.heap.size, 0, none⟩)]) ∧ w' = w.alloc (.cells #[.int .i64 r.pos, .bool r.failed, .slice a r.slots.length c, .string r.port, .string r.hand] 26) := by
  unfold Rb.val
  refine callsIn_of_wp Try.func38 rfl h38 ?_ hro
  simp only [Try.ntmps38, List.size_toArray, List.length_cons, List.length_nil, Nat.reduceAdd, Nat.reduceSub, Array.replicate_succ, Array.replicate_zero, List.push_toArray, List.append_toArray, List.nil_append, List.cons_append]
  gi_wp2
  go_ret
  exact ⟨rfl, rfl⟩
theorem places_stops (F : Fence) (n : Nat) (h45 : F.fn 45) (hro : F.round = none) (hn : 1 ≤ n) (B n₀ : Nat) (r : Rb) (a : Option Addr) (c : Nat) (w : World) (hl : r.slots.length ≤ 1000000) (hc : r.slots.length ≤ c) (hB : B < n₀) (hn₀ : n₀ ≤ w.heap.size)
    (hR : RB B r a c w) (hs : Strs w a r.slots) (ha : ∀ x, a = some x → r.slots ≠ [] → x.block < n₀) :
    SeqStopsK F n Try.prog 45 #[.pointer (some ⟨B, 0, none⟩)] encIt (Below n₀) (fun ys => ys = items r) (fun pre => pre <+: items r) (r.slots.length + 2) w := fun l J Jx W hW _ _ hY h0 =>
  places1_in F n h45 hro hn l B n₀ r a c hl hc hB J Jx hY W (hR.next hW) (hs.below hW) ha h0
end Go.Proofs.Ytpnkaoigpefmiaa
