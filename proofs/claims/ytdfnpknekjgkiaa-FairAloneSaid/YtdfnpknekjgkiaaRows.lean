/-
  No cell of these rows narrows 'for every input' (looked for: loops, veiled, ifaces, maps, wideKeys, modest, calm, conditions, laid).
  DERIVED. THE GIVEN ROWS OF THIS SEAT. 6 by the template 'for every input the law returns true; each argument reads behind the call as it read before'; 0 by the template 'total and deterministic' (their statements: YtdfnpknekjgkiaaTotals.lean).
  GIVEN WITH THE SEED: the statements are not yours to turn. If you find one false, say at which input.
  Laid BY PROGRAM, IN A SANDBOX (cutbox-rows.mjs): the forced cells as the released guide's own fill.sh prints them over the translation e7dbd1975a58b7de… (all of the seat's roots in one cut). By AI agents, Wed Nov 11 2026. No macro, syntax, notation, axiom, sorry.
-/
import Derived.Test.YtdfnpknekjgkiaaChecked
import GoSem.Claim
import GoSem.ClaimJoined
import GoSem.ClaimMapViews
import Derived.JoinedTies
import Derived.KernelRfl
namespace Go.Proofs.Ytdfnpknekjgkiaa
/- THE CELL 'sum', in the pinned program and in every row, IS THE sha256 OF THE DUMP (.gsa) THAT YtdfnpknekjgkiaaProg.lean LOADS. Nothing in Lean hashes anything: it is a label: what it is worth is what the hold of that sum in a sandbox is worth. -/
noncomputable def Try.pinned : Pinned := { name := "ytdfnpknekjgkiaa", sum := "e7dbd1975a58b7de2992c51cb102e108de5c2cf1422b29fd0df70334644b34d0", checked := Try.checked }
namespace Rows
def none {H : Type} : Left H := { results := [], args := [] }

/-- 'tapearchivelaw40.FairOrders': WHATEVER THE INPUT: true; the input reads as it did. -/
def fairOrdersSpec : ChangeSpec := { name := "fairOrders", fn := fun _ => fun
  | [d1, d2, d3, d4] => { results := [.lit (.bool true)], args := [d1, d2, d3, d4] }
  | _ => none }
def fairOrdersRow : OpenClaim := { program := "ytdfnpknekjgkiaa", sum := "e7dbd1975a58b7de2992c51cb102e108de5c2cf1422b29fd0df70334644b34d0", func := "tapearchive/tapearchivelaw40.FairOrders", spec := "fairOrders", unfollowed := true, recurses := true, apart := false }
def FairOrdersSaid : Prop := fairOrdersRow.holds Try.pinned (OpenSpec.ofChange fairOrdersSpec)

/-- ITS FALSE NEIGHBOUR: 'it returns false'. Refute it at one input. -/
def fairOrdersWrong : ChangeSpec := { name := "fairOrders", fn := fun _ => fun
  | [d1, d2, d3, d4] => { results := [.lit (.bool false)], args := [d1, d2, d3, d4] }
  | _ => none }
def FairOrdersWrongFalsely : Prop := fairOrdersRow.holds Try.pinned (OpenSpec.ofChange fairOrdersWrong)

/-- 'tapearchivelaw40.FairCounts': WHATEVER THE INPUT: true; the input reads as it did. -/
def fairCountsSpec : ChangeSpec := { name := "fairCounts", fn := fun _ => fun
  | [d1, d2, d3, d4, d5, d6] => { results := [.lit (.bool true)], args := [d1, d2, d3, d4, d5, d6] }
  | _ => none }
def fairCountsRow : OpenClaim := { program := "ytdfnpknekjgkiaa", sum := "e7dbd1975a58b7de2992c51cb102e108de5c2cf1422b29fd0df70334644b34d0", func := "tapearchive/tapearchivelaw40.FairCounts", spec := "fairCounts", unfollowed := true, recurses := true, apart := false }
def FairCountsSaid : Prop := fairCountsRow.holds Try.pinned (OpenSpec.ofChange fairCountsSpec)

/-- ITS FALSE NEIGHBOUR: 'it returns false'. Refute it at one input. -/
def fairCountsWrong : ChangeSpec := { name := "fairCounts", fn := fun _ => fun
  | [d1, d2, d3, d4, d5, d6] => { results := [.lit (.bool false)], args := [d1, d2, d3, d4, d5, d6] }
  | _ => none }
def FairCountsWrongFalsely : Prop := fairCountsRow.holds Try.pinned (OpenSpec.ofChange fairCountsWrong)

/-- 'tapearchivelaw40.FairServes': WHATEVER THE INPUT: true; the input reads as it did. -/
def fairServesSpec : ChangeSpec := { name := "fairServes", fn := fun _ => fun
  | [d1, d2, d3] => { results := [.lit (.bool true)], args := [d1, d2, d3] }
  | _ => none }
def fairServesRow : OpenClaim := { program := "ytdfnpknekjgkiaa", sum := "e7dbd1975a58b7de2992c51cb102e108de5c2cf1422b29fd0df70334644b34d0", func := "tapearchive/tapearchivelaw40.FairServes", spec := "fairServes", unfollowed := true, recurses := true, apart := false }
def FairServesSaid : Prop := fairServesRow.holds Try.pinned (OpenSpec.ofChange fairServesSpec)

/-- ITS FALSE NEIGHBOUR: 'it returns false'. Refute it at one input. -/
def fairServesWrong : ChangeSpec := { name := "fairServes", fn := fun _ => fun
  | [d1, d2, d3] => { results := [.lit (.bool false)], args := [d1, d2, d3] }
  | _ => none }
def FairServesWrongFalsely : Prop := fairServesRow.holds Try.pinned (OpenSpec.ofChange fairServesWrong)

/-- 'tapearchivelaw40.FairLag': WHATEVER THE INPUT: true; the input reads as it did. -/
def fairLagSpec : ChangeSpec := { name := "fairLag", fn := fun _ => fun
  | [d1, d2, d3] => { results := [.lit (.bool true)], args := [d1, d2, d3] }
  | _ => none }
def fairLagRow : OpenClaim := { program := "ytdfnpknekjgkiaa", sum := "e7dbd1975a58b7de2992c51cb102e108de5c2cf1422b29fd0df70334644b34d0", func := "tapearchive/tapearchivelaw40.FairLag", spec := "fairLag", unfollowed := true, recurses := true, apart := false }
def FairLagSaid : Prop := fairLagRow.holds Try.pinned (OpenSpec.ofChange fairLagSpec)

/-- ITS FALSE NEIGHBOUR: 'it returns false'. Refute it at one input. -/
def fairLagWrong : ChangeSpec := { name := "fairLag", fn := fun _ => fun
  | [d1, d2, d3] => { results := [.lit (.bool false)], args := [d1, d2, d3] }
  | _ => none }
def FairLagWrongFalsely : Prop := fairLagRow.holds Try.pinned (OpenSpec.ofChange fairLagWrong)

/-- 'tapearchivelaw40.FairNexts': WHATEVER THE INPUT: true; the input reads as it did. -/
def fairNextsSpec : ChangeSpec := { name := "fairNexts", fn := fun _ => fun
  | [d1, d2, d3, d4, d5] => { results := [.lit (.bool true)], args := [d1, d2, d3, d4, d5] }
  | _ => none }
def fairNextsRow : OpenClaim := { program := "ytdfnpknekjgkiaa", sum := "e7dbd1975a58b7de2992c51cb102e108de5c2cf1422b29fd0df70334644b34d0", func := "tapearchive/tapearchivelaw40.FairNexts", spec := "fairNexts", unfollowed := true, recurses := true, apart := false }
def FairNextsSaid : Prop := fairNextsRow.holds Try.pinned (OpenSpec.ofChange fairNextsSpec)

/-- ITS FALSE NEIGHBOUR: 'it returns false'. Refute it at one input. -/
def fairNextsWrong : ChangeSpec := { name := "fairNexts", fn := fun _ => fun
  | [d1, d2, d3, d4, d5] => { results := [.lit (.bool false)], args := [d1, d2, d3, d4, d5] }
  | _ => none }
def FairNextsWrongFalsely : Prop := fairNextsRow.holds Try.pinned (OpenSpec.ofChange fairNextsWrong)

/-- 'tapearchivelaw40.FairAlone': WHATEVER THE INPUT: true; the input reads as it did. -/
def fairAloneSpec : ChangeSpec := { name := "fairAlone", fn := fun _ => fun
  | [d1, d2, d3, d4, d5] => { results := [.lit (.bool true)], args := [d1, d2, d3, d4, d5] }
  | _ => none }
def fairAloneRow : OpenClaim := { program := "ytdfnpknekjgkiaa", sum := "e7dbd1975a58b7de2992c51cb102e108de5c2cf1422b29fd0df70334644b34d0", func := "tapearchive/tapearchivelaw40.FairAlone", spec := "fairAlone", unfollowed := true, recurses := true, apart := false }
def FairAloneSaid : Prop := fairAloneRow.holds Try.pinned (OpenSpec.ofChange fairAloneSpec)

/-- ITS FALSE NEIGHBOUR: 'it returns false'. Refute it at one input. -/
def fairAloneWrong : ChangeSpec := { name := "fairAlone", fn := fun _ => fun
  | [d1, d2, d3, d4, d5] => { results := [.lit (.bool false)], args := [d1, d2, d3, d4, d5] }
  | _ => none }
def FairAloneWrongFalsely : Prop := fairAloneRow.holds Try.pinned (OpenSpec.ofChange fairAloneWrong)

/- THE SECOND FORM. 'bulk': how many values and letters a reading holds, each counted each time it is reached (what is shared counts as often as it is met; a slice's spare places count too). A statement '..UptoSaid' is the law's where the arguments, and the package variables that the reading takes, are together of bulk at most 1048576: NARROWER than '..Said'. Prove '..Said' where nothing that the law and all that it calls make is longer than what came in: it says more and counts as full. Else prove '..UptoSaid'. A law counts once. -/
mutual
def uptoBulk {H : Type} : DataW H → Nat
  | .lit (.string bytes) => bytes.length + 1
  | .lit _ => 1
  | .nil => 1
  | .ptr d => uptoBulk d + 1
  | .slice elems spare => uptoBulkAll elems + uptoBulkAll spare + 1
  | .agg parts => uptoBulkAll parts + 1
  | .iface _ d => uptoBulk d + 1
  | .map entries => uptoBulkEntries entries + 1
  | .held _ => 1
def uptoBulkAll {H : Type} : List (DataW H) → Nat
  | [] => 0
  | d :: r => uptoBulk d + uptoBulkAll r
def uptoBulkEntries {H : Type} : List (Lit × DataW H) → Nat
  | [] => 0
  | x :: r => uptoBulkEntry x + uptoBulkEntries r
def uptoBulkEntry {H : Type} : Lit × DataW H → Nat
  | (.string bytes, d) => bytes.length + uptoBulk d + 1
  | (_, d) => uptoBulk d + 1
 end
def uptoSmall : (H : Type) → List (DataW H) → Bool := fun _ ds => decide (uptoBulkAll ds ≤ 1048576)
def OpenSpec.upto (s : _root_.Go.ChangeSpec) : _root_.Go.OpenSpec := { _root_.Go.OpenSpec.ofChange s with cond := some uptoSmall }

/-- 'tapearchivelaw40.FairOrders', WHERE WHAT IT READS IS OF BULK AT MOST 1048576: true; the input reads as it did. -/
def fairOrdersUptoRow : OpenClaim := { program := "ytdfnpknekjgkiaa", sum := "e7dbd1975a58b7de2992c51cb102e108de5c2cf1422b29fd0df70334644b34d0", func := "tapearchive/tapearchivelaw40.FairOrders", spec := "fairOrders", unfollowed := true, recurses := true, apart := false, narrowed := true }
def FairOrdersUptoSaid : Prop := fairOrdersUptoRow.holds Try.pinned (OpenSpec.upto fairOrdersSpec)

/-- 'tapearchivelaw40.FairCounts', WHERE WHAT IT READS IS OF BULK AT MOST 1048576: true; the input reads as it did. -/
def fairCountsUptoRow : OpenClaim := { program := "ytdfnpknekjgkiaa", sum := "e7dbd1975a58b7de2992c51cb102e108de5c2cf1422b29fd0df70334644b34d0", func := "tapearchive/tapearchivelaw40.FairCounts", spec := "fairCounts", unfollowed := true, recurses := true, apart := false, narrowed := true }
def FairCountsUptoSaid : Prop := fairCountsUptoRow.holds Try.pinned (OpenSpec.upto fairCountsSpec)

/-- 'tapearchivelaw40.FairServes', WHERE WHAT IT READS IS OF BULK AT MOST 1048576: true; the input reads as it did. -/
def fairServesUptoRow : OpenClaim := { program := "ytdfnpknekjgkiaa", sum := "e7dbd1975a58b7de2992c51cb102e108de5c2cf1422b29fd0df70334644b34d0", func := "tapearchive/tapearchivelaw40.FairServes", spec := "fairServes", unfollowed := true, recurses := true, apart := false, narrowed := true }
def FairServesUptoSaid : Prop := fairServesUptoRow.holds Try.pinned (OpenSpec.upto fairServesSpec)

/-- 'tapearchivelaw40.FairLag', WHERE WHAT IT READS IS OF BULK AT MOST 1048576: true; the input reads as it did. -/
def fairLagUptoRow : OpenClaim := { program := "ytdfnpknekjgkiaa", sum := "e7dbd1975a58b7de2992c51cb102e108de5c2cf1422b29fd0df70334644b34d0", func := "tapearchive/tapearchivelaw40.FairLag", spec := "fairLag", unfollowed := true, recurses := true, apart := false, narrowed := true }
def FairLagUptoSaid : Prop := fairLagUptoRow.holds Try.pinned (OpenSpec.upto fairLagSpec)

/-- 'tapearchivelaw40.FairNexts', WHERE WHAT IT READS IS OF BULK AT MOST 1048576: true; the input reads as it did. -/
def fairNextsUptoRow : OpenClaim := { program := "ytdfnpknekjgkiaa", sum := "e7dbd1975a58b7de2992c51cb102e108de5c2cf1422b29fd0df70334644b34d0", func := "tapearchive/tapearchivelaw40.FairNexts", spec := "fairNexts", unfollowed := true, recurses := true, apart := false, narrowed := true }
def FairNextsUptoSaid : Prop := fairNextsUptoRow.holds Try.pinned (OpenSpec.upto fairNextsSpec)

/-- 'tapearchivelaw40.FairAlone', WHERE WHAT IT READS IS OF BULK AT MOST 1048576: true; the input reads as it did. -/
def fairAloneUptoRow : OpenClaim := { program := "ytdfnpknekjgkiaa", sum := "e7dbd1975a58b7de2992c51cb102e108de5c2cf1422b29fd0df70334644b34d0", func := "tapearchive/tapearchivelaw40.FairAlone", spec := "fairAlone", unfollowed := true, recurses := true, apart := false, narrowed := true }
def FairAloneUptoSaid : Prop := fairAloneUptoRow.holds Try.pinned (OpenSpec.upto fairAloneSpec)

end Rows
end Go.Proofs.Ytdfnpknekjgkiaa
