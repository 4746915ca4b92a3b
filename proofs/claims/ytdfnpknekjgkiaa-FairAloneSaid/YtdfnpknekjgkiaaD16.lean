/- defined: the reference's shares. -/
import Derived.Test.YtdfnpknekjgkiaaD15
import Derived.Test.YtdfnpknekjgkiaaWLast
namespace Go.Proofs.Ytdfnpknekjgkiaa
open Go.RowKit
open Go.Proofs.YtdfnpknekjgkiaaW.PrintLast
set_option linter.unusedVariables false
set_option linter.unusedSimpArgs false

def shFlat (s : ByteArray × Int) : List Value := [.string s.1, .int .i64 s.2]
def shAll : Shares → List Value
  | [] => []
  | s :: r => shFlat s ++ shAll r
theorem shAll_snoc : ∀ (l : Shares) (s : ByteArray × Int), shAll (l ++ [s]) = shAll l ++ shFlat s
  | [], s => by simp [shAll]
  | u :: r, s => by rw [List.cons_append, shAll, shAll, shAll_snoc r, List.append_assoc]
theorem shAll_at : ∀ (l : Shares) (k j : Nat) (s : ByteArray × Int), l[k]? = some s → j < 2 → (shAll l)[k * 2 + j]? = (shFlat s)[j]?
  | [], k, j, s, h, _ => by simp at h
  | u :: r, 0, j, s, h, hj => by
    simp at h
    subst h
    rw [shAll, List.getElem?_append_left (by simp [shFlat]; omega)]
    simp
  | u :: r, k + 1, j, s, h, hj => by
    simp at h
    rw [shAll, List.getElem?_append_right (by simp [shFlat]; omega)]
    rw [show (k + 1) * 2 + j - (shFlat u).length = k * 2 + j by simp [shFlat]; omega]
    exact shAll_at r k j s h hj
theorem shs_own {w : World} {base e : Nat} {v : Value} {l : Shares} (h : w.ownsRow base e 2 v l.length (shAll l)) : ∃ a c, v = .slice a l.length c ∧ Shs w a l ∧ l.length ≤ c := by
  have h0 := h
  rcases h.2 with ⟨rfl, h1⟩ | ⟨g, c, cur, rfl, _, _, hc, _⟩
  · have : l = [] := List.eq_nil_of_length_eq_zero h1
    subst this
    exact ⟨none, 0, rfl, .inl rfl, Nat.le_refl _⟩
  · refine ⟨some ⟨g, 0, none⟩, c, rfl, .inr ⟨_, rfl, fun k t hk => ?_⟩, hc⟩
    have e : ∀ j v, j < 2 → (shFlat t)[j]? = some v → w.cell? ⟨g, k * 2 + j, none⟩ = some v := fun j v hj hv => by
      have := World.ownsRow.cells (g := g) h0 rfl (k * 2 + j) v (by rw [shAll_at l k j t hk hj]; exact hv)
      rw [add_at] at this; exact this
    rw [add_at]
    exact ⟨e 0 _ (by omega) rfl, e 1 _ (by omega) rfl⟩
theorem info65 : (Try.prog.info? 65).map (fun i => (i.size, i.bytes, i.zero.map (fun z => z.cells.size))) = some (2, 24, some 2) := by kernel_rfl
theorem parts65 : ∃ i z, Try.prog.info? 65 = some i ∧ i.zero = some z ∧ i.size = 2 ∧ i.bytes = 24 ∧ z.cells.size = 2 := by
  have h := info65
  cases hi : Try.prog.info? 65 with
  | none => rw [hi] at h; cases h
  | some i =>
    rw [hi] at h
    simp only [Option.map_some, Option.some.injEq, Prod.mk.injEq] at h
    obtain ⟨h1, h2, h3⟩ := h
    cases hz : i.zero with
    | none => rw [hz] at h3; cases h3
    | some z =>
      rw [hz] at h3
      exact ⟨i, z, rfl, hz, h1, h2, by simpa using h3⟩
structure DfM (w : World) (l : Shares) (k : Nat) (v : Value) (wr : World) : Prop where
  own : wr.ownsRow w.heap.size 65 2 v k (shAll (l.take k))
  low : Below w.heap.size w wr
def DefR (l : Shares) (w : World) (e : Ending) (w' : World) : Prop := ∃ a c, e = .returned (.slice a l.length c) ∧ Shs w' a l ∧ l.length ≤ c ∧ Below w.heap.size w w'
theorem below_alloc' {B : Nat} {w a : World} (h : Below B w a) (o : Obj) (hB : B ≤ a.heap.size := by first | exact Nat.le_refl _ | assumption) : Below B w (a.alloc o) := h.alloc hB o
set_option maxRecDepth 100000 in
set_option maxHeartbeats 4000000 in
theorem defined_any (l : Shares) (a : Option Addr) (c : Nat) (w : World) (hx : Shs w a l) (hc : l.length ≤ c) (hl : l.length ≤ 100000) :
    Calls Try.prog 14 #[.slice a l.length c] w (DefR l w) := by
  have HS : Hid (DfM w l 0 (.slice (some ⟨w.heap.size, 0, none⟩) 0 0) (w.alloc (.cells #[] 65))) := by
    have h1 := World.ownsRow_lit (base := w.heap.size) (e := 65) (size := 2) w #[] 0 (Nat.le_refl _) (by unfold maxLen; omega) rfl
    exact Lib.hid ⟨h1, below_alloc (Below.refl _ _) _⟩
  go_enter Try.func14, Try.ntmps14
  go_wp2
  go_loopw [3, 4] (fun v i wr => ∃ k : Nat, i = .int .i64 k ∧ k ≤ l.length ∧ Hid (DfM w l k v wr)) (fun _ i _ => l.length - (intOf i).toNat)
  case atStart => exact ⟨0, rfl, by omega, HS⟩
  case round =>
    clear HS
    obtain ⟨k, rfl, hk, HM⟩ := hrel
    by_cases h : k < l.length
    · obtain ⟨O0, low⟩ := HM.out
      obtain ⟨x, rfl, e1, e2⟩ := (hx.below low).at h
      obtain ⟨i65, z65, hi, hz, hsz, hby, hzc⟩ := parts65
      have hss : shAll (l.take (k + 1)) = shAll (l.take k) ++ shFlat l[k] := by rw [List.take_succ_eq_append_getElem h, shAll_snoc]
      have HSS := Lib.hid hss
      have hlw := low.size
      have HLW := Lib.hid low
      have g0 : (0 : Int) ≤ (k : Int) := by omega
      have g1 : (k : Int) < (l.length : Int) := by omega
      generalize shAll (l.take k) = xs at *
      generalize l[k] = s at *
      obtain ⟨t, n⟩ := s
      dsimp only at e1 e2
      have K : ∀ wx, Below wr.heap.size wr wx → Below wr.heap.size wr wx ∧ wx.cell? (x.add (k * 2)) = some (.string t) ∧ wx.cell? ⟨(x.add (k * 2)).block, (x.add (k * 2)).off + 1, none⟩ = some (.int .i64 n) := fun wx hb => ⟨hb, below_keep hb e1, below_keep hb e2⟩
      have S0 := K wr.drew (Below.refl _ _).drew
      have KK := Lib.hid K
      replace O0 := Lib.hid O0
      clear K hss low HM hx e1 e2
      go_wp2
      replace O0 := O0.out
      refine start_ (n := 15) (S := (fun wx => Below wr.heap.size wr wx ∧ wx.cell? (x.add (k * 2)) = some (.string t) ∧ wx.cell? ⟨(x.add (k * 2)).block, (x.add (k * 2)).off + 1, none⟩ = some (.int .i64 n))) (ds := [13]) #[false, false, false, false, false, false, false, false, false, false, false, false, false, false, false] (by kernel_rfl) rfl rfl S0 (fun hHeld => ?_)
      refine pure_ (i := 0) (N := some 12) (v := ?_) (a' := ?_) #[true, false, false, false, false, false, false, false, false, false, false, false, false, false, false] rfl rfl (by kernel_rfl) (fun _ _ _ h => h) (Or.inl ⟨by rfl, ?_⟩) ?_ ?_
      rotate_left
      · intro w'
        go_simp
        try with_reducible rfl
      rotate_left
      · simp only [Act.put, List.setIfInBounds_toArray, List.set_cons_zero, List.set_cons_succ]
        rfl
      refine pure_ (i := 1) (N := some 13) (v := ?_) (a' := ?_) #[true, true, false, false, false, false, false, false, false, false, false, false, false, false, false] rfl rfl (by kernel_rfl) (fun _ _ _ h => h) (Or.inl ⟨by rfl, ?_⟩) ?_ ?_
      rotate_left
      · intro w'
        go_simp
        try with_reducible rfl
      rotate_left
      · simp only [Act.put, List.setIfInBounds_toArray, List.set_cons_zero, List.set_cons_succ]
        rfl
      refine pure_ (i := 2) (N := some 14) (v := ?_) (a' := ?_) #[true, true, true, false, false, false, false, false, false, false, false, false, false, false, false] rfl rfl (by kernel_rfl) (fun _ _ _ h => h) (Or.inl ⟨by rfl, ?_⟩) ?_ ?_
      rotate_left
      · intro w'
        go_simp
        try with_reducible rfl
      rotate_left
      · simp only [Act.put, List.setIfInBounds_toArray, List.set_cons_zero, List.set_cons_succ]
        rfl
      refine pure_ (i := 3) (N := some 15) (v := ?_) (a' := ?_) #[true, true, true, true, false, false, false, false, false, false, false, false, false, false, false] rfl rfl (by kernel_rfl) (fun _ _ _ h => h) (Or.inl ⟨by rfl, ?_⟩) ?_ ?_
      rotate_left
      · intro w'
        go_simp
        try with_reducible rfl
      rotate_left
      · simp only [Act.put, List.setIfInBounds_toArray, List.set_cons_zero, List.set_cons_succ]
        rfl
      refine pure_ (i := 4) (N := some 16) (v := ?_) (a' := ?_) #[true, true, true, true, true, false, false, false, false, false, false, false, false, false, false] rfl rfl (by kernel_rfl) (fun _ _ _ h => h) (Or.inl ⟨by rfl, ?_⟩) ?_ ?_
      rotate_left
      · intro w'
        go_simp
        try with_reducible rfl
      rotate_left
      · simp only [Act.put, List.setIfInBounds_toArray, List.set_cons_zero, List.set_cons_succ]
        rfl
      refine take_ (i := 5) (N := some 17) (v := ?_) (a' := ?_) #[true, true, true, true, true, true, false, false, false, false, false, false, false, false, false] rfl rfl (by kernel_rfl) (fun _ _ _ h => h) (Or.inl ⟨by rfl, ?_⟩) hHeld ?_ ?_
      rotate_left
      · rintro w' ⟨s0, s1, s2⟩
        go_simp
        try with_reducible rfl
      rotate_left
      · simp only [Act.put, List.setIfInBounds_toArray, List.set_cons_zero, List.set_cons_succ]
        rfl
      refine pure_ (i := 6) (N := some 18) (v := ?_) (a' := ?_) #[true, true, true, true, true, true, true, false, false, false, false, false, false, false, false] rfl rfl (by kernel_rfl) (fun _ _ _ h => h) (Or.inl ⟨by rfl, ?_⟩) ?_ ?_
      rotate_left
      · intro w'
        go_simp
        try with_reducible rfl
      rotate_left
      · simp only [Act.put, List.setIfInBounds_toArray, List.set_cons_zero, List.set_cons_succ]
        rfl
      refine pure_ (i := 7) (N := some 19) (v := ?_) (a' := ?_) #[true, true, true, true, true, true, true, true, false, false, false, false, false, false, false] rfl rfl (by kernel_rfl) (fun _ _ _ h => h) (Or.inl ⟨by rfl, ?_⟩) ?_ ?_
      rotate_left
      · intro w'
        go_simp
        try with_reducible rfl
      rotate_left
      · simp only [Act.put, List.setIfInBounds_toArray, List.set_cons_zero, List.set_cons_succ]
        rfl
      refine pure_ (i := 8) (N := some 20) (v := ?_) (a' := ?_) #[true, true, true, true, true, true, true, true, true, false, false, false, false, false, false] rfl rfl (by kernel_rfl) (fun _ _ _ h => h) (Or.inl ⟨by rfl, ?_⟩) ?_ ?_
      rotate_left
      · intro w'
        go_simp
        try with_reducible rfl
      rotate_left
      · simp only [Act.put, List.setIfInBounds_toArray, List.set_cons_zero, List.set_cons_succ]
        rfl
      refine pure_ (i := 9) (N := some 21) (v := ?_) (a' := ?_) #[true, true, true, true, true, true, true, true, true, true, false, false, false, false, false] rfl rfl (by kernel_rfl) (fun _ _ _ h => h) (Or.inl ⟨by rfl, ?_⟩) ?_ ?_
      rotate_left
      · intro w'
        go_simp
        try with_reducible rfl
      rotate_left
      · simp only [Act.put, List.setIfInBounds_toArray, List.set_cons_zero, List.set_cons_succ]
        rfl
      refine take_ (i := 10) (N := some 22) (v := ?_) (a' := ?_) #[true, true, true, true, true, true, true, true, true, true, true, false, false, false, false] rfl rfl (by kernel_rfl) (fun _ _ _ h => h) (Or.inl ⟨by rfl, ?_⟩) hHeld ?_ ?_
      rotate_left
      · rintro w' ⟨s0, s1, s2⟩
        go_simp
        try with_reducible rfl
      rotate_left
      · simp only [Act.put, List.setIfInBounds_toArray, List.set_cons_zero, List.set_cons_succ]
        rfl
      refine pure_ (i := 11) (N := some 23) (v := ?_) (a' := ?_) #[true, true, true, true, true, true, true, true, true, true, true, true, false, false, false] rfl rfl (by kernel_rfl) (fun _ _ _ h => h) (Or.inl ⟨by rfl, ?_⟩) ?_ ?_
      rotate_left
      · intro w'
        go_simp
        try with_reducible rfl
      rotate_left
      · simp only [Act.put, List.setIfInBounds_toArray, List.set_cons_zero, List.set_cons_succ]
        rfl
      refine one_ (i := 12) (N := some 24) #[true, true, true, true, true, true, true, true, true, true, true, true, true, false, false] rfl rfl (by kernel_rfl) (by decide) (fun K hK => ?_)
      go_simp
      refine hK.out _ _ (KK.out _ (below_alloc' (Below.refl _ _).drew _)) (fun hHeld => ?_)
      clear hK K
      try simp only [Act.put, List.setIfInBounds_toArray, List.set_cons_zero, List.set_cons_succ]
      refine last_ (i := 13) (N := some 25) #[true, true, true, true, true, true, true, true, true, true, true, true, true, true, false] rfl rfl (by kernel_rfl) (by decide) (fun K hK => ?_)
      refine Eq.mpr (if_pos (by rfl)) ?_
      refine wp_append_own _ _ _ 38 rfl w.heap.size 65 i65 z65 2 24 Try.underlying38 hi hz hsz hby hzc (by decide) _ k xs rfl (show (wr.alloc (.cells #[.string t, .int .i64 n] 65)).drew.ownsRow w.heap.size 65 2 u3 k xs from O0.alloc _) ⟨wr.heap.size, 0, none⟩ 1 1 (shFlat (t, n)) rfl rfl (fun j u hj => by rw [add_at]; show (wr.alloc (.cells #[.string t, .int .i64 n] 65)).cell? _ = _; rw [World.cell?_alloc_mark]; simpa [shFlat] using hj) (by intro u hu; simp [shFlat] at hu; rcases hu with rfl | rfl <;> rfl) (by unfold maxLen; omega) (by omega) (by show w.heap.size ≤ (wr.alloc (.cells #[.string t, .int .i64 n] 65)).heap.size; rw [World.size_alloc]; omega) fun v6 w6 hown6 hgrow6 _ => hK.out _ _ ?_
      clear hK K
      try simp only [Act.put, List.setIfInBounds_toArray, List.set_cons_zero, List.set_cons_succ]
      refine pure_ (i := 14) (N := some 3) (v := ?_) (a' := ?_) #[true, true, true, true, true, true, true, true, true, true, true, true, true, true, true] rfl rfl (by kernel_rfl) (fun _ _ _ h => h) (Or.inl ⟨by rfl, ?_⟩) ?_ ?_
      rotate_left
      · intro w'
        go_simp
        try with_reducible rfl
      rotate_left
      · simp only [Act.put, List.setIfInBounds_toArray, List.set_cons_zero, List.set_cons_succ]
        rfl
      refine done_ (by kernel_rfl) ?_
      have HN : Hid (DfM w l (k + 1) v6 w6) := Lib.hid ⟨by rw [HSS.out]; exact hown6, below_app (w := w) (a := (wr.alloc (.cells #[.string t, .int .i64 n] 65)).drew) (below_alloc HLW.out _).drew hgrow6 (show (wr.alloc (.cells #[.string t, .int .i64 n] 65)).drew.ownsRow w.heap.size 65 2 u3 k xs from O0.alloc _)⟩
      clear hown6 hgrow6 O0
      go_wp2
      go_roundw
      case rel => exact ⟨k + 1, by go_num, by omega, HN⟩
      case measure => simp [intOf]; omega
    · obtain ⟨O0, low⟩ := HM.out
      have hke : k = l.length := by omega
      subst hke
      rw [List.take_length] at O0
      obtain ⟨a', c', rfl, hs, hcc⟩ := shs_own O0
      have HO := Lib.hid (And.intro hs (And.intro hcc low))
      clear O0 low hs hcc HM
      go_wp2
      go_ret
      exact ⟨a', c', rfl, HO.out.1, HO.out.2.1, HO.out.2.2⟩
end Go.Proofs.Ytdfnpknekjgkiaa
