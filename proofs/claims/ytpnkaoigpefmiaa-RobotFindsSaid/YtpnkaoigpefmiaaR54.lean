/- The law RobotFinds, whole. -/
import Derived.Test.YtpnkaoigpefmiaaR53
namespace Go.Proofs.Ytpnkaoigpefmiaa
open Go.RowKit
set_option linter.unusedVariables false
set_option linter.unusedSimpArgs false

theorem finds_law (HA : Awake) (r : Rb) (a : Option Addr) (c : Nat) (b : ByteArray) (w : World) (hr : RobArg w r a c) :
    Calls Try.prog 8 #[r.val a c, .string b] w fun e w' => e = .returned (.bool true) ∧ Below w.heap.size w w' := by
  cases hu : (findOf (fewR r) b).2.2 with
  | false =>
    obtain ⟨h1, h2 | ⟨h2, h3⟩⟩ := find_not hu
    · rcases empty_kinds (fewR r).slots with ⟨e1, e2⟩ | ⟨k, e1, e2, e3, e4⟩
      · exact finds_nob_none HA r a c b w hr h1 h2 e1 e2
      · exact finds_nob_some HA r a c b w hr h1 h2 k e1 e2 e3 e4
    · rcases empty_kinds (fewR r).slots with ⟨e1, e2⟩ | ⟨k, e1, e2, e3, e4⟩
      · exact finds_no_none HA r a c b w hr h1 h2 h3 e1 e2
      · exact finds_no_some HA r a c b w hr h1 h2 h3 k e1 e2 e3 e4
  | true =>
    obtain ⟨h1, h2, ⟨j, h3, h4, h5⟩ | ⟨h3, h4⟩ | ⟨h3, h4⟩⟩ := find_kinds hu
    · rcases empty_kinds (fewR r).slots with ⟨e1, e2⟩ | ⟨k, e1, e2, e3, e4⟩
      · exact finds_slot_none HA r a c b w hr j h3 h4 h5 h1 h2 e1 e2
      · exact finds_slot_some HA r a c b w hr j h3 h4 h5 h1 h2 k e1 e2 e3 e4
    · rcases empty_kinds (fewR r).slots with ⟨e1, e2⟩ | ⟨k, e1, e2, e3, e4⟩
      · exact finds_port_none HA r a c b w hr h3 h4 h1 h2 e1 e2
      · exact finds_port_some HA r a c b w hr h3 h4 h1 h2 k e1 e2 e3 e4
    · rcases empty_kinds (fewR r).slots with ⟨e1, e2⟩ | ⟨k, e1, e2, e3, e4⟩
      · exact finds_hand_none HA r a c b w hr h3 h4 h1 h2 e1 e2
      · exact finds_hand_some HA r a c b w hr h3 h4 h1 h2 k e1 e2 e3 e4
end Go.Proofs.Ytpnkaoigpefmiaa
