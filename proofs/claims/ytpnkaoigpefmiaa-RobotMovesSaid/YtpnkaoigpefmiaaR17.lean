/- The places as the loop of Valid takes them: each barcode is no longer than any string is. -/
import Derived.Test.YtpnkaoigpefmiaaR16
namespace Go.Proofs.Ytpnkaoigpefmiaa
open Go.RowKit Go.Shelf
attribute [local go_sem] Oper.semAt_some
set_option linter.unusedVariables false
set_option linter.unusedSimpArgs false

abbrev Gd := { x : It // x.2.2.size ≤ maxLen }
theorem places_stopsG (F : Fence) (n : Nat) (h45 : F.fn 45) (hro : F.round = none) (hn : 1 ≤ n) (B : Nat) (r : Rb) (a : Option Addr) (c : Nat) (w : World) (hl : r.slots.length ≤ 1000000) (hc : r.slots.length ≤ c) (Kp : World → World → Prop) (hKr : ∀ X, Kp X X) (hKt : ∀ {X Y Z : World}, Kp X Y → Kp Y Z → Kp X Z)
    (hcB : ∀ X Y, Kp X Y → ∀ (j : Nat) (v : Value), X.cell? ⟨B, j, none⟩ = some v → Y.cell? ⟨B, j, none⟩ = some v)
    (hcS : ∀ X Y, Kp X Y → ∀ (x : Addr) (k : Nat) (v : Value), r.slots ≠ [] → a = some x → X.cell? (x.add k) = some v → Y.cell? (x.add k) = some v)
    (hR : RB B r a c w) (hs : Strs w a r.slots) (hg : ∀ x ∈ items r, x.2.2.size ≤ maxLen) :
    SeqStopsK F n Try.prog 45 #[.pointer (some ⟨B, 0, none⟩)] (fun x : Gd => encIt x.1) Kp (fun ys => ys.map (fun y => y.1) = items r) (fun pre => pre.map (fun y => y.1) <+: items r) (r.slots.length + 2) w := fun l J Jx W hW _ _ hY h0 => by
  have := places1_gen F n h45 hro hn l B r a c hl hc Kp hKr hKt hcB hcS (fun p W => ∃ q : List Gd, q.map (fun y => y.1) = p ∧ J q W) (fun p W => ∃ q : List Gd, q.map (fun y => y.1) = p ∧ Jx q W)
    (fun pre x W1 hx ⟨q, hq, hJ⟩ hlen => (hY q ⟨x, hg x hx⟩ W1 hJ (by rw [← hq, List.length_map] at hlen; exact hlen)).mono fun e W' h => by
      rcases h with ⟨e1, e2, e3⟩ | ⟨e1, e2⟩
      · exact .inl ⟨e1, ⟨q ++ [⟨x, hg x hx⟩], by rw [List.map_append, hq]; rfl, e2⟩, e3⟩
      · exact .inr ⟨e1, ⟨q ++ [⟨x, hg x hx⟩], by rw [List.map_append, hq]; rfl, e2⟩⟩)
    W (hR.next hW) (hs.below hW) ⟨[], rfl, h0⟩
  refine this.mono fun e W' ⟨h1, h2⟩ => ⟨h1, ?_⟩
  rcases h2 with ⟨ys, rfl, q, hq, hJ⟩ | ⟨pre, hp, q, hq, hJ⟩
  · exact .inl ⟨q, hq, hJ⟩
  · exact .inr ⟨q, (by show List.map (fun y => y.1) q <+: items r; rw [hq]; exact hp), hJ⟩
end Go.Proofs.Ytpnkaoigpefmiaa
