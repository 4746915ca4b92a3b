/- The map of the barcodes that have come. -/
import Derived.Test.YtpnkaoigpefmiaaR17
import Derived.Maps.OwnIn
import Derived.Maps.Views
namespace Go.Proofs.Ytpnkaoigpefmiaa
open Go.RowKit Go.Maps
set_option linter.unusedVariables false
set_option linter.unusedSimpArgs false

def keyS (s : ByteArray) : Lit := .string s.data.toList
def seenD (pre : List Gd) : DataW Unit := pre.foldl (fun D x => D.put (keyS x.1.2.2) (.lit (.bool true))) (.map [])
theorem seenD_snoc (pre : List Gd) (x : Gd) : seenD (pre ++ [x]) = (seenD pre).put (keyS x.1.2.2) (.lit (.bool true)) := by simp [seenD]
theorem seenD_map (pre : List Gd) : IsMap (seenD pre) := by
  have : ∀ (l : List Gd) (D : DataW Unit), IsMap D → IsMap (l.foldl (fun D x => D.put (keyS x.1.2.2) (.lit (.bool true))) D) := by
    intro l
    induction l with
    | nil => intro D h; exact h
    | cons x r ih => intro D h; exact ih _ (IsMap.put h _ _)
  exact this pre _ isMap_empty
theorem keyS_inj {s t : ByteArray} (h : keyS s = keyS t) : s = t := by
  injection h with h
  exact Go.WideShapes.bytes_inj h
theorem seen_at (s : ByteArray) (pre : List Gd) : ((∃ x ∈ pre, x.1.2.2 = s) → (seenD pre).atKey (keyS s) (.lit (.bool false)) = .lit (.bool true)) ∧ ((¬ ∃ x ∈ pre, x.1.2.2 = s) → (seenD pre).atKey (keyS s) (.lit (.bool false)) = .lit (.bool false)) := by
  have H : ∀ n (p : List Gd), p.length = n → ((∃ x ∈ p, x.1.2.2 = s) → (seenD p).atKey (keyS s) (.lit (.bool false)) = .lit (.bool true)) ∧ ((¬ ∃ x ∈ p, x.1.2.2 = s) → (seenD p).atKey (keyS s) (.lit (.bool false)) = .lit (.bool false)) := by
    intro n
    induction n with
    | zero =>
      intro p hp
      obtain rfl := List.eq_nil_of_length_eq_zero hp
      exact ⟨(fun ⟨x, hx, _⟩ => by cases hx), fun _ => rfl⟩
    | succ n ih =>
      intro p hp
      have hne : p ≠ [] := by rintro rfl; simp at hp
      obtain ⟨q, x, rfl⟩ : ∃ q x, p = q ++ [x] := ⟨p.dropLast, p.getLast hne, (List.dropLast_concat_getLast hne).symm⟩
      have hq : q.length = n := by simpa using hp
      obtain ⟨h1, h2⟩ := ih q hq
      rw [seenD_snoc]
      by_cases e : x.1.2.2 = s
      · rw [e]
        refine ⟨fun _ => atKey_put_same (seenD_map q) (show WideAt.IsKeyLit (keyS s) from trivial) _ _, fun hno => absurd ⟨x, List.mem_append.2 (.inr (List.mem_singleton.2 rfl)), e⟩ hno⟩
      · rw [atKey_put_other (fun h => e (keyS_inj h).symm)]
        refine ⟨fun ⟨y, hy, hys⟩ => ?_, fun hno => h2 fun ⟨y, hy, hys⟩ => hno ⟨y, List.mem_append.2 (.inl hy), hys⟩⟩
        rcases List.mem_append.1 hy with hy | hy
        · exact h1 ⟨y, hy, hys⟩
        · rw [List.mem_singleton.1 hy] at hys
          exact absurd hys e
  exact H _ pre rfl
end Go.Proofs.Ytpnkaoigpefmiaa
