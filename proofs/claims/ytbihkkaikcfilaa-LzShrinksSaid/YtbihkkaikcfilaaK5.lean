/- Pack: its contract. -/
import Derived.Test.YtbihkkaikcfilaaP3
import Derived.Maps.OwnSet
import Derived.Maps.OwnOps
namespace Go.Proofs.Ytbihkkaikcfilaa
open Go.RowKit Go.Maps
set_option linter.unusedVariables false
set_option linter.unusedSimpArgs false

theorem law9 : Keyed Try.prog 9 := string_keyed Try.underlying9
theorem zero3 (w : World) : (zeroValue 3).run Try.prog w = .ok (.int .i64 0) w := by kernel_rfl
/-- The map of places: all values are places before. -/
structure JM (w : World) (p : Nat) (wr : World) (D : DataW Unit) : Prop where
  own : wr.ownsMap Try.prog 9 (plainElem Try.prog 3) (w.heap.size + 3) p D
  ismap : IsMap D
  zero : p = 0 → D = .map []
  vals : ∀ kl (c : Int), D.atKey kl (.lit (.int .i64 0)) = .lit (.int .i64 c) → 0 ≤ c ∧ (c < p ∨ p = 0)
theorem JM.keep {w wr w' : World} {p : Nat} {D : DataW Unit} (h : JM w p wr D) (hk : KeepM w wr w') : JM w p w' D := by
  obtain ⟨⟨es, clock, h1, h2⟩, h0, h3, h4⟩ := h
  exact ⟨⟨es, clock, hk.trans h1, h2⟩, h0, h3, h4⟩
theorem JM.next {w wr : World} {p q : Nat} {D : DataW Unit} (h : JM w p wr D) (hq : p < q) : JM w q wr D := by
  obtain ⟨h1, h0, h3, h4⟩ := h
  exact ⟨h1.mono (by omega), h0, fun e => by omega, fun kl c hc => by
    by_cases hp : p = 0
    · have := h3 hp
      subst this
      have : (DataW.lit (.int .i64 0) : DataW Unit) = .lit (.int .i64 c) := hc
      injection this with e1
      injection e1 with _ e2
      omega
    · have := h4 kl c hc; omega⟩
theorem JM.put {w wr w' : World} {p q : Nat} {D : DataW Unit} {kl : Lit} (h : JM w p wr D) (hk : WideAt.IsKeyLit kl) (hq : p < q) (ho : w'.ownsMap Try.prog 9 (plainElem Try.prog 3) (w.heap.size + 3) (p + 1) (D.put kl (.lit (.int .i64 p)))) : JM w q w' (D.put kl (.lit (.int .i64 p))) := by
  obtain ⟨h1, h0, h3, h4⟩ := h
  refine ⟨ho.mono (by omega), ?_, fun e => by omega, fun k2 c hc => ?_⟩
  · exact IsMap.put h0 _ _
  · by_cases e : k2 = kl
    · subst e
      rw [atKey_put_same h0 hk] at hc
      injection hc with e1
      injection e1 with _ e2
      omega
    · rw [atKey_put_other e] at hc
      exact (JM.next ⟨h1, h0, h3, h4⟩ hq).vals k2 c hc
theorem PkS.mapset {w : World} {a : Option Addr} {c : Nat} {xs : List Int} {start : Nat} {o : List Int} {wr w' : World} {ov : Value} (h : PkS w a c xs start o wr ov) (hg : wr.grownBy w' (some (w.heap.size + 3))) : PkS w a c xs start o w' ov := by
  obtain ⟨h0, h1, h2, h3, h4, h5⟩ := h
  refine ⟨by rw [hg.block _ (by omega) (by simp)]; exact h0, by rw [hg.block _ (by omega) (by simp)]; exact h1, by rw [hg.block _ (by omega) (by simp)]; exact h2, ⟨h3.1, ?_⟩, by have := hg.size; omega, h5.grown hg h5.size (fun k hk => by cases hk; omega)⟩
  rcases h3.2 with h | ⟨g, cap, cur, k1, k2, k3, k4⟩
  · exact .inl h
  · refine .inr ⟨g, cap, cur, k1, k2, ?_, k4⟩
    have hg' : g < wr.heap.size := by
      rcases Nat.lt_or_ge g wr.heap.size with h | h
      · exact h
      · rw [Array.getElem?_eq_none h] at k3; cases k3
    rw [hg.block g hg' (by simp; omega)]; exact k3
structure KInv (w : World) (a : Option Addr) (c : Nat) (xs : List Int) (p : Nat) (wr : World) : Prop where
  ex : ∃ ts start ov D, PackI xs ts start p ∧ PkS w a c xs start (formL ts) wr ov ∧ JM w p wr D
theorem kinv_start (w : World) (a : Option Addr) (c : Nat) (xs : List Int) : KInv w a c xs 0 ((((w.alloc (.cells #[.slice a xs.length c] 22)).alloc (.cells #[.slice none 0 0] 22)).alloc (.cells #[.int .i64 0] 3)).alloc (.map #[] 0)) := by
  have s1 : (w.alloc (.cells #[.slice a xs.length c] 22)).heap.size = w.heap.size + 1 := by simp
  have s2 : ((w.alloc (.cells #[.slice a xs.length c] 22)).alloc (.cells #[.slice none 0 0] 22)).heap.size = w.heap.size + 2 := by simp
  have s3 : (((w.alloc (.cells #[.slice a xs.length c] 22)).alloc (.cells #[.slice none 0 0] 22)).alloc (.cells #[.int .i64 0] 3)).heap.size = w.heap.size + 3 := by simp
  refine ⟨[], 0, .slice none 0 0, .map [], pack_start xs, ⟨?_, ?_, ?_, World.ownsRow_nil _ _ _ _, by simp, ?_⟩, ⟨?_, isMap_empty, fun _ => rfl, fun kl c hc => ?_⟩⟩
  · rw [Below.heap_alloc _ _ _ (by omega), Below.heap_alloc _ _ _ (by omega), Below.heap_alloc _ _ _ (by omega)]
    exact heap_alloc_new _ _
  · rw [Below.heap_alloc _ _ _ (by omega), Below.heap_alloc _ _ _ (by omega), ← s1]
    exact heap_alloc_new _ _
  · rw [Below.heap_alloc _ _ _ (by omega), ← s2]
    exact heap_alloc_new _ _
  · exact below_alloc (below_alloc (below_alloc (below_alloc (Below.refl _ _) _) _) _) _
  · have := World.ownsMap_made (H := Unit) (((w.alloc (.cells #[.slice a xs.length c] 22)).alloc (.cells #[.slice none 0 0] 22)).alloc (.cells #[.int .i64 0] 3)) Try.prog 9 (plainElem Try.prog 3)
    rw [s3] at this; exact this
  · have : (DataW.lit (.int .i64 0) : DataW Unit) = .lit (.int .i64 c) := hc
    injection this with e1
    injection e1 with _ e2
    omega
end Go.Proofs.Ytbihkkaikcfilaa
