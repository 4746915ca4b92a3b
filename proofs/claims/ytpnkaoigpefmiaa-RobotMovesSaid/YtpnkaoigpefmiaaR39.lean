/- The laws' helpers: plain, few, held, count. -/
import Derived.Test.YtpnkaoigpefmiaaR38
namespace Go.Proofs.Ytpnkaoigpefmiaa
open Go.RowKit
set_option linter.unusedVariables false
set_option linter.unusedSimpArgs false

def Mp : Md := ⟨4, 2, 6, 10, 2, 5, 4⟩
set_option maxHeartbeats 400000 in
theorem plain_any (w : World) : Calls Try.prog 35 #[] w fun e w' => e = .returned Mp.val ∧ Below w.heap.size w w' := by
  go_enter Try.func35, Try.ntmps35
  go_wp2
  refine bodyPost_ret (v := .agg #[.int .i64 4, .int .i64 2, .int .i64 6, .int .i64 10, .int .i64 2, .int .i64 5, .int .i64 4]) (by simp [results, Try.results35, go_sem]) rfl ⟨rfl, below_alloc (Below.refl _ _) _⟩
end Go.Proofs.Ytpnkaoigpefmiaa
