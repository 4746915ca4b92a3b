/- The law RobotMoves. -/
import Derived.Test.YtpnkaoigpefmiaaR58
namespace Go.Proofs.Ytpnkaoigpefmiaa
open Go.RowKit
theorem moves_law (HA : Awake) (m : Md) (r : Rb) (a : Option Addr) (c : Nat) (k i kb ib : Int) (b : ByteArray) (w : World) (hr : RobArg w r a c) (hbz : b.size ≤ maxLen)
    (hi0 : -9223372036854775808 ≤ i) (hi1 : i ≤ 9223372036854775807) (hib0 : -9223372036854775808 ≤ ib) (hib1 : ib ≤ 9223372036854775807) :
    Calls Try.prog 5 #[m.val, r.val a c, .agg #[.int .i64 k, .int .i64 i], .agg #[.int .i64 kb, .int .i64 ib], .string b] w fun e w' => e = .returned (.bool true) ∧ Below w.heap.size w w' := by
  by_cases he : (pickOf m (fewR r) k i b).2.2 = 0
  · by_cases hf : (putOf m (pickOf m (fewR r) k i b).1 kb ib).2.2 = 0
    · exact moves_ok HA m r a c k i kb ib b w hr hbz hi0 hi1 hib0 hib1 he hf
    · exact moves_err2 HA m r a c k i kb ib b w hr hbz hi0 hi1 hib0 hib1 he hf
  · exact moves_err1 HA m r a c k i kb ib b w hr hi0 hi1 he
end Go.Proofs.Ytpnkaoigpefmiaa
