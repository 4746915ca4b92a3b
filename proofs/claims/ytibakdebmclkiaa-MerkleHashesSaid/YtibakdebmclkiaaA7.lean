/- The contracts of the paths to leaves, of the program and of the reference: both return one list. -/
import Derived.Test.YtibakdebmclkiaaA6
import Derived.Deep.AppendLies
namespace Go.Proofs.Ytibakdebmclkiaa
open Go.RowKit
set_option linter.unusedVariables false
set_option linter.unusedSimpArgs false

/-- The path to a leaf. -/
def pathOf (l : List Int) (i : Nat) : List Int :=
  if h : l.length ≤ 1 then []
  else if i < splitOf l.length then pathOf (l.take (splitOf l.length)) i ++ [rootOf (l.drop (splitOf l.length))]
  else pathOf (l.drop (splitOf l.length)) (i - splitOf l.length) ++ [rootOf (l.take (splitOf l.length))]
termination_by l.length
decreasing_by
  · have := splitOf_lt (n := l.length) (by omega); rw [List.length_take]; omega
  · have := splitOf_pos l.length; rw [List.length_drop]; omega

theorem pathOf_length (d : Nat) : ∀ (l : List Int) (i : Nat), l.length ≤ d → (pathOf l i).length ≤ l.length := by
  induction d with
  | zero => intro l i h; rw [pathOf, dif_pos (by omega)]; simp
  | succ d ih =>
    intro l i h
    rw [pathOf]
    by_cases h1 : l.length ≤ 1
    · rw [dif_pos h1]; simp
    · rw [dif_neg h1]
      have s1 := splitOf_lt (n := l.length) (by omega)
      have s2 := splitOf_pos l.length
      have l1 := List.length_take (l := l) (i := splitOf l.length)
      have l2 := List.length_drop (l := l) (i := splitOf l.length)
      have a1 := ih (l.take (splitOf l.length)) i (by omega)
      have a2 := ih (l.drop (splitOf l.length)) (i - splitOf l.length) (by omega)
      split <;> (rw [List.length_append, List.length_singleton]; omega)

theorem ownsRow_mono {w : World} {base base' : Nat} {e : TypeId} {size : Nat} {v : Value} {n : Nat} {xs : List Value} (h : w.ownsRow base e size v n xs) (hb : base' ≤ base) : w.ownsRow base' e size v n xs := by
  refine ⟨h.1, ?_⟩
  rcases h.2 with h | ⟨g, cap, cur, h1, h2, h3⟩
  · exact .inl h
  · exact .inr ⟨g, cap, cur, h1, by omega, h3⟩
theorem ownsRow_below {w w' : World} {base : Nat} {e : TypeId} {size : Nat} {v : Value} {n : Nat} {xs : List Value} (h : w.ownsRow base e size v n xs) (hb : Below w.heap.size w w') : w'.ownsRow base e size v n xs := by
  refine ⟨h.1, ?_⟩
  rcases h.2 with h | ⟨g, cap, cur, h1, h2, h3, h4⟩
  · exact .inl h
  · refine .inr ⟨g, cap, cur, h1, h2, ?_, h4⟩
    have hg : g < w.heap.size := by
      rcases Nat.lt_or_ge g w.heap.size with h | h
      · exact h
      · rw [Array.getElem?_eq_none h] at h3; cases h3
    rw [hb.block g hg]; exact h3
theorem below_alloc {w a : World} (h : Below w.heap.size w a) (o : Obj) : Below w.heap.size w (a.alloc o) := h.alloc h.size o
theorem below_app {w a b : World} {v : Value} {e size n : Nat} {xs : List Value} (h : Below w.heap.size w a) (hg : a.grownBy b v.ownBlock) (hown : a.ownsRow w.heap.size e size v n xs) : Below w.heap.size w b :=
  h.grown hg h.size (fun k hk => (hown.lt k hk).1)
theorem own_snoc {w : World} {base e n m : Nat} {k : IntKind} {v : Value} {xs : List Int} {y : Int} (h : w.ownsRow base e 1 v n (xs.map (Value.int k) ++ [.int k y])) (hm : n = m) : w.ownsRow base e 1 v m ((xs ++ [y]).map (Value.int k)) := by
  subst hm
  rw [List.map_append]; exact h

set_option maxHeartbeats 2000000 in
theorem path_any (d : Nat) : ∀ (i : Int) (a : Option Addr) (c : Nat) (xs : List Int) (w : World), xs.length ≤ d → 0 ≤ i → i < xs.length → Ints .u64 w a xs → xs.length ≤ c → xs.length ≤ 1099511627776 →
    Calls Try.prog 31 #[.slice a xs.length c, .int .i64 i] w fun e w' => ∃ v, e = .returned v ∧ w'.ownsRow w.heap.size 24 1 v (pathOf xs i.toNat).length ((pathOf xs i.toNat).map (Value.int .u64)) ∧ Below w.heap.size w w' := by
  induction d with
  | zero => intro i a c xs w hd h0 hi; omega
  | succ d ih =>
    intro i a c xs w hd h0 hi hx hc hl
    obtain ⟨i0, hi0, hz0, hz1, hz2⟩ := info_parts info24
    by_cases h1 : xs.length = 1
    · have q1 : ((xs.length : Int) == 1) = true := beq_iff_eq.2 (by omega)
      have hfin : pathOf xs i.toNat = [] := by rw [pathOf, dif_pos (by omega)]
      rw [hfin]
      clear hfin
      go_enter Try.func31, Try.ntmps31
      go_wp2
      go_ret
      exact ⟨_, rfl, World.ownsRow_nil _ _ _ _, Below.refl _ _⟩
    · have q1 : ((xs.length : Int) == 1) = false := beq_eq_false_iff_ne.2 (by omega)
      have s1 := splitOf_lt (n := xs.length) (by omega)
      have s2 := splitOf_pos xs.length
      obtain ⟨a', hcut⟩ := cuts a c xs (splitOf xs.length) (by omega) hc
      have hcl := hcut.lo
      have hch := hcut.hi
      have l1 := List.length_take (l := xs) (i := splitOf xs.length)
      have l2 := List.length_drop (l := xs) (i := splitOf xs.length)
      by_cases hik : i < splitOf xs.length
      · have p1 := pathOf_length _ (xs.take (splitOf xs.length)) i.toNat (Nat.le_refl _)
        have i1 : ∀ wx, Below w.heap.size w wx → Calls Try.prog 31 #[.slice a (xs.take (splitOf xs.length)).length c, .int .i64 i] wx fun e w' => ∃ v, e = .returned v ∧ w'.ownsRow w.heap.size 24 1 v (pathOf (xs.take (splitOf xs.length)) i.toNat).length ((pathOf (xs.take (splitOf xs.length)) i.toNat).map (Value.int .u64)) ∧ Below w.heap.size w w' :=
          fun wx hb => (ih i a c _ wx (by rw [l1]; omega) h0 (by rw [l1]; omega) ((hcut.loI w hx).below hb) hcut.loL (by rw [l1]; omega)).mono fun e w' ⟨v, h1, h2, h3⟩ => ⟨v, h1, ownsRow_mono h2 hb.size, Below.next hb h3⟩
        have i2 : ∀ wx v n ys, Below w.heap.size w wx → wx.ownsRow w.heap.size 24 1 v n ys → Calls Try.prog 11 #[.slice a' (xs.drop (splitOf xs.length)).length (c - splitOf xs.length)] wx fun e w' => e = .returned (.int .u64 (rootOf (xs.drop (splitOf xs.length)))) ∧ w'.ownsRow w.heap.size 24 1 v n ys ∧ Below w.heap.size w w' :=
          fun wx v n ys hb ho => (root_any _ a' (c - splitOf xs.length) _ wx (Nat.le_refl _) ((hcut.hiI w hx).below hb) hcut.hiL (by rw [l2]; omega)).mono fun e w' h => ⟨h.1, ownsRow_below ho h.2, Below.next hb h.2⟩
        have I1 := Lib.hid i1
        have I2 := Lib.hid i2
        have HF : pathOf xs i.toNat = pathOf (xs.take (splitOf xs.length)) i.toNat ++ [rootOf (xs.drop (splitOf xs.length))] := by
          conv => lhs; rw [pathOf]
          rw [dif_neg (by omega), if_pos (by omega)]
        rw [HF]
        have hpl : (pathOf (xs.take (splitOf xs.length)) i.toNat).length ≤ 1099511627776 := by omega
        clear i1 i2 l1 l2 HF ih hcut p1
        generalize pathOf (xs.take (splitOf xs.length)) i.toNat = p at *
        generalize xs.take (splitOf xs.length) = lo at *
        generalize hrt : rootOf (xs.drop (splitOf xs.length)) = rt at *
        generalize xs.drop (splitOf xs.length) = hi at *
        clear hrt
        · go_enter Try.func31, Try.ntmps31
          go_wp2_with (first | (go_at_call 28; refine (split_any _ _ (by omega) (by omega)).mono ?_; rintro e w' ⟨rfl, rfl⟩))
          go_region_held3 (fun wx => Below w.heap.size w wx) (with_reducible first | assumption | exact (Below.refl _ _).drew | exact Below.refl _ _ | exact below_alloc (by assumption) _) (first | (go_at_call 31; (with_reducible refine (I1.out _ ?_).mono ?_); (with_reducible assumption); rintro e w1 ⟨v1, rfl, hown1, hb1⟩) | (go_at_call 11; (with_reducible refine (I2.out _ _ _ _ hb1 hown1).mono ?_); rintro e w2 ⟨rfl, hown2, hb2⟩) | (refine step_append_lies _ (by rfl) _ _ _ (by rfl) w.heap.size 24 i0 _ 1 8 Try.underlying22 hi0 hz0 hz1 hz2 rfl (by omega) v1 p.length (p.map (Value.int .u64)) (by rfl) (hown2.alloc _) ⟨w2.heap.size, 0, none⟩ 1 1 [.int .u64 rt] (by rfl) (by rfl) (cell_one_new _ _ _) (by simp [Value.oneCell']) (by omega) (by unfold maxLen; omega) (by omega) (by have := hb2.size; simp; omega) (w2.heap.size + 1) (by simp) ?_; intro gg cap w3 hown3 hgrow3 hat3 hlt3; have hb3 := below_app (below_alloc hb2 _) hgrow3 (hown2.alloc _)))
          go_wp2
          go_ret
          exact ⟨_, rfl, own_snoc hown3 (by simp), hb3⟩
      · have p1 := pathOf_length _ (xs.drop (splitOf xs.length)) (i.toNat - splitOf xs.length) (Nat.le_refl _)
        have i1 : ∀ wx, Below w.heap.size w wx → Calls Try.prog 31 #[.slice a' (xs.drop (splitOf xs.length)).length (c - splitOf xs.length), .int .i64 (i - splitOf xs.length)] wx fun e w' => ∃ v, e = .returned v ∧ w'.ownsRow w.heap.size 24 1 v (pathOf (xs.drop (splitOf xs.length)) (i.toNat - splitOf xs.length)).length ((pathOf (xs.drop (splitOf xs.length)) (i.toNat - splitOf xs.length)).map (Value.int .u64)) ∧ Below w.heap.size w w' := by
          intro wx hb
          have := ih (i - splitOf xs.length) a' (c - splitOf xs.length) _ wx (by rw [l2]; omega) (by omega) (by rw [l2]; omega) ((hcut.hiI w hx).below hb) hcut.hiL (by rw [l2]; omega)
          rw [show (i - (splitOf xs.length : Int)).toNat = i.toNat - splitOf xs.length from by omega] at this
          exact this.mono fun e w' ⟨v, h1, h2, h3⟩ => ⟨v, h1, ownsRow_mono h2 hb.size, Below.next hb h3⟩
        have i2 : ∀ wx v n ys, Below w.heap.size w wx → wx.ownsRow w.heap.size 24 1 v n ys → Calls Try.prog 11 #[.slice a (xs.take (splitOf xs.length)).length c] wx fun e w' => e = .returned (.int .u64 (rootOf (xs.take (splitOf xs.length)))) ∧ w'.ownsRow w.heap.size 24 1 v n ys ∧ Below w.heap.size w w' :=
          fun wx v n ys hb ho => (root_any _ a c _ wx (Nat.le_refl _) ((hcut.loI w hx).below hb) hcut.loL (by rw [l1]; omega)).mono fun e w' h => ⟨h.1, ownsRow_below ho h.2, Below.next hb h.2⟩
        have I1 := Lib.hid i1
        have I2 := Lib.hid i2
        have HF : pathOf xs i.toNat = pathOf (xs.drop (splitOf xs.length)) (i.toNat - splitOf xs.length) ++ [rootOf (xs.take (splitOf xs.length))] := by
          conv => lhs; rw [pathOf]
          rw [dif_neg (by omega), if_neg (by omega)]
        rw [HF]
        have hpl : (pathOf (xs.drop (splitOf xs.length)) (i.toNat - splitOf xs.length)).length ≤ 1099511627776 := by omega
        have hsw : IntKind.i64.wrap (i - splitOf xs.length) = i - splitOf xs.length := IntWalk.i64_in _ (by omega)
        clear i1 i2 l1 l2 HF ih hcut p1
        generalize pathOf (xs.drop (splitOf xs.length)) (i.toNat - splitOf xs.length) = p at *
        generalize xs.drop (splitOf xs.length) = hi at *
        generalize hrt : rootOf (xs.take (splitOf xs.length)) = rt at *
        generalize xs.take (splitOf xs.length) = lo at *
        clear hrt
        · go_enter Try.func31, Try.ntmps31
          go_wp2_with (first | (go_at_call 28; refine (split_any _ _ (by omega) (by omega)).mono ?_; rintro e w' ⟨rfl, rfl⟩))
          go_region_held3 (fun wx => Below w.heap.size w wx) (with_reducible first | assumption | exact (Below.refl _ _).drew | exact Below.refl _ _ | exact below_alloc (by assumption) _) (first | (go_at_call 31; (with_reducible refine (I1.out _ ?_).mono ?_); (with_reducible assumption); rintro e w1 ⟨v1, rfl, hown1, hb1⟩) | (go_at_call 11; (with_reducible refine (I2.out _ _ _ _ hb1 hown1).mono ?_); rintro e w2 ⟨rfl, hown2, hb2⟩) | (refine step_append_lies _ (by rfl) _ _ _ (by rfl) w.heap.size 24 i0 _ 1 8 Try.underlying22 hi0 hz0 hz1 hz2 rfl (by omega) v1 p.length (p.map (Value.int .u64)) (by rfl) (hown2.alloc _) ⟨w2.heap.size, 0, none⟩ 1 1 [.int .u64 rt] (by rfl) (by rfl) (cell_one_new _ _ _) (by simp [Value.oneCell']) (by omega) (by unfold maxLen; omega) (by omega) (by have := hb2.size; simp; omega) (w2.heap.size + 1) (by simp) ?_; intro gg cap w3 hown3 hgrow3 hat3 hlt3; have hb3 := below_app (below_alloc hb2 _) hgrow3 (hown2.alloc _)))
          go_wp2
          go_ret
          exact ⟨_, rfl, own_snoc hown3 (by simp), hb3⟩

set_option maxHeartbeats 2000000 in
theorem rpath_any (d : Nat) : ∀ (i : Int) (a : Option Addr) (c : Nat) (xs : List Int) (w : World), xs.length ≤ d → 0 ≤ i → i < xs.length → Ints .u64 w a xs → xs.length ≤ c → xs.length ≤ 1099511627776 →
    Calls Try.prog 32 #[.slice a xs.length c, .int .i64 i] w fun e w' => ∃ v, e = .returned v ∧ w'.ownsRow w.heap.size 24 1 v (pathOf xs i.toNat).length ((pathOf xs i.toNat).map (Value.int .u64)) ∧ Below w.heap.size w w' := by
  induction d with
  | zero => intro i a c xs w hd h0 hi; omega
  | succ d ih =>
    intro i a c xs w hd h0 hi hx hc hl
    obtain ⟨i0, hi0, hz0, hz1, hz2⟩ := info_parts info24
    by_cases h1 : xs.length = 1
    · have q1 : ((xs.length : Int) == 1) = true := beq_iff_eq.2 (by omega)
      have hfin : pathOf xs i.toNat = [] := by rw [pathOf, dif_pos (by omega)]
      rw [hfin]
      clear hfin
      go_enter Try.func32, Try.ntmps32
      go_wp2
      go_ret
      exact ⟨_, rfl, World.ownsRow_nil _ _ _ _, Below.refl _ _⟩
    · have q1 : ((xs.length : Int) == 1) = false := beq_eq_false_iff_ne.2 (by omega)
      have s1 := splitOf_lt (n := xs.length) (by omega)
      have s2 := splitOf_pos xs.length
      obtain ⟨a', hcut⟩ := cuts a c xs (splitOf xs.length) (by omega) hc
      have hcl := hcut.lo
      have hch := hcut.hi
      have l1 := List.length_take (l := xs) (i := splitOf xs.length)
      have l2 := List.length_drop (l := xs) (i := splitOf xs.length)
      by_cases hik : i < splitOf xs.length
      · have p1 := pathOf_length _ (xs.take (splitOf xs.length)) i.toNat (Nat.le_refl _)
        have i1 : ∀ wx, Below w.heap.size w wx → Calls Try.prog 32 #[.slice a (xs.take (splitOf xs.length)).length c, .int .i64 i] wx fun e w' => ∃ v, e = .returned v ∧ w'.ownsRow w.heap.size 24 1 v (pathOf (xs.take (splitOf xs.length)) i.toNat).length ((pathOf (xs.take (splitOf xs.length)) i.toNat).map (Value.int .u64)) ∧ Below w.heap.size w w' :=
          fun wx hb => (ih i a c _ wx (by rw [l1]; omega) h0 (by rw [l1]; omega) ((hcut.loI w hx).below hb) hcut.loL (by rw [l1]; omega)).mono fun e w' ⟨v, h1, h2, h3⟩ => ⟨v, h1, ownsRow_mono h2 hb.size, Below.next hb h3⟩
        have i2 : ∀ wx v n ys, Below w.heap.size w wx → wx.ownsRow w.heap.size 24 1 v n ys → Calls Try.prog 12 #[.slice a' (xs.drop (splitOf xs.length)).length (c - splitOf xs.length)] wx fun e w' => e = .returned (.int .u64 (rootOf (xs.drop (splitOf xs.length)))) ∧ w'.ownsRow w.heap.size 24 1 v n ys ∧ Below w.heap.size w w' :=
          fun wx v n ys hb ho => (rroot_any _ a' (c - splitOf xs.length) _ wx (Nat.le_refl _) ((hcut.hiI w hx).below hb) hcut.hiL (by rw [l2]; omega)).mono fun e w' h => ⟨h.1, ownsRow_below ho h.2, Below.next hb h.2⟩
        have I1 := Lib.hid i1
        have I2 := Lib.hid i2
        have HF : pathOf xs i.toNat = pathOf (xs.take (splitOf xs.length)) i.toNat ++ [rootOf (xs.drop (splitOf xs.length))] := by
          conv => lhs; rw [pathOf]
          rw [dif_neg (by omega), if_pos (by omega)]
        rw [HF]
        have hpl : (pathOf (xs.take (splitOf xs.length)) i.toNat).length ≤ 1099511627776 := by omega
        clear i1 i2 l1 l2 HF ih hcut p1
        generalize pathOf (xs.take (splitOf xs.length)) i.toNat = p at *
        generalize xs.take (splitOf xs.length) = lo at *
        generalize hrt : rootOf (xs.drop (splitOf xs.length)) = rt at *
        generalize xs.drop (splitOf xs.length) = hi at *
        clear hrt
        · go_enter Try.func32, Try.ntmps32
          go_wp2_with (first | (go_at_call 30; refine (rsplit_any _ _ (by omega) (by omega)).mono ?_; rintro e w' ⟨rfl, rfl⟩))
          refine (I1.out _ (Below.refl _ _)).mono ?_
          rintro e w1 ⟨v1, rfl, hown1, hb1⟩
          go_wp2_with fail
          refine (I2.out _ _ _ _ hb1 hown1).mono ?_
          rintro e w2 ⟨rfl, hown2, hb2⟩
          go_wp2_with (at_builtin; refine wpList_append_own _ rfl _ _ 22 rfl w.heap.size 24 i0 (.int .u64 0) 1 8 Try.underlying22 hi0 hz0 hz1 hz2 rfl (by decide) v1 p.length (p.map (Value.int .u64)) rfl (hown2.alloc _) ⟨w2.heap.size, 0, none⟩ 1 1 [.int .u64 rt] rfl rfl (cell_one_new _ _ _) (by simp [Value.oneCell']) (by unfold maxLen; omega) (by omega) (by have := hb2.size; simp; omega) ?_)
          intro v3 w3 hown3 hgrow3 _
          have hb3 := below_app (below_alloc hb2 _) hgrow3 (hown2.alloc _)
          have HO := Lib.hid (own_snoc (m := (p ++ [rt]).length) hown3 (by simp))
          clear hown3 hgrow3
          go_wp2
          go_ret
          exact ⟨_, rfl, HO.out, hb3⟩
      · have p1 := pathOf_length _ (xs.drop (splitOf xs.length)) (i.toNat - splitOf xs.length) (Nat.le_refl _)
        have i1 : ∀ wx, Below w.heap.size w wx → Calls Try.prog 32 #[.slice a' (xs.drop (splitOf xs.length)).length (c - splitOf xs.length), .int .i64 (i - splitOf xs.length)] wx fun e w' => ∃ v, e = .returned v ∧ w'.ownsRow w.heap.size 24 1 v (pathOf (xs.drop (splitOf xs.length)) (i.toNat - splitOf xs.length)).length ((pathOf (xs.drop (splitOf xs.length)) (i.toNat - splitOf xs.length)).map (Value.int .u64)) ∧ Below w.heap.size w w' := by
          intro wx hb
          have := ih (i - splitOf xs.length) a' (c - splitOf xs.length) _ wx (by rw [l2]; omega) (by omega) (by rw [l2]; omega) ((hcut.hiI w hx).below hb) hcut.hiL (by rw [l2]; omega)
          rw [show (i - (splitOf xs.length : Int)).toNat = i.toNat - splitOf xs.length from by omega] at this
          exact this.mono fun e w' ⟨v, h1, h2, h3⟩ => ⟨v, h1, ownsRow_mono h2 hb.size, Below.next hb h3⟩
        have i2 : ∀ wx v n ys, Below w.heap.size w wx → wx.ownsRow w.heap.size 24 1 v n ys → Calls Try.prog 12 #[.slice a (xs.take (splitOf xs.length)).length c] wx fun e w' => e = .returned (.int .u64 (rootOf (xs.take (splitOf xs.length)))) ∧ w'.ownsRow w.heap.size 24 1 v n ys ∧ Below w.heap.size w w' :=
          fun wx v n ys hb ho => (rroot_any _ a c _ wx (Nat.le_refl _) ((hcut.loI w hx).below hb) hcut.loL (by rw [l1]; omega)).mono fun e w' h => ⟨h.1, ownsRow_below ho h.2, Below.next hb h.2⟩
        have I1 := Lib.hid i1
        have I2 := Lib.hid i2
        have HF : pathOf xs i.toNat = pathOf (xs.drop (splitOf xs.length)) (i.toNat - splitOf xs.length) ++ [rootOf (xs.take (splitOf xs.length))] := by
          conv => lhs; rw [pathOf]
          rw [dif_neg (by omega), if_neg (by omega)]
        rw [HF]
        have hpl : (pathOf (xs.drop (splitOf xs.length)) (i.toNat - splitOf xs.length)).length ≤ 1099511627776 := by omega
        have hsw : IntKind.i64.wrap (i - splitOf xs.length) = i - splitOf xs.length := IntWalk.i64_in _ (by omega)
        clear i1 i2 l1 l2 HF ih hcut p1
        generalize pathOf (xs.drop (splitOf xs.length)) (i.toNat - splitOf xs.length) = p at *
        generalize xs.drop (splitOf xs.length) = hi at *
        generalize hrt : rootOf (xs.take (splitOf xs.length)) = rt at *
        generalize xs.take (splitOf xs.length) = lo at *
        clear hrt
        · go_enter Try.func32, Try.ntmps32
          go_wp2_with (first | (go_at_call 30; refine (rsplit_any _ _ (by omega) (by omega)).mono ?_; rintro e w' ⟨rfl, rfl⟩))
          refine (I1.out _ (Below.refl _ _)).mono ?_
          rintro e w1 ⟨v1, rfl, hown1, hb1⟩
          go_wp2_with fail
          refine (I2.out _ _ _ _ hb1 hown1).mono ?_
          rintro e w2 ⟨rfl, hown2, hb2⟩
          go_wp2_with (at_builtin; refine wpList_append_own _ rfl _ _ 22 rfl w.heap.size 24 i0 (.int .u64 0) 1 8 Try.underlying22 hi0 hz0 hz1 hz2 rfl (by decide) v1 p.length (p.map (Value.int .u64)) rfl (hown2.alloc _) ⟨w2.heap.size, 0, none⟩ 1 1 [.int .u64 rt] rfl rfl (cell_one_new _ _ _) (by simp [Value.oneCell']) (by unfold maxLen; omega) (by omega) (by have := hb2.size; simp; omega) ?_)
          intro v3 w3 hown3 hgrow3 _
          have hb3 := below_app (below_alloc hb2 _) hgrow3 (hown2.alloc _)
          have HO := Lib.hid (own_snoc (m := (p ++ [rt]).length) hown3 (by simp))
          clear hown3 hgrow3
          go_wp2
          go_ret
          exact ⟨_, rfl, HO.out, hb3⟩

set_option maxHeartbeats 1000000 in
theorem proof_no (i : Int) (a : Option Addr) (c : Nat) (xs : List Int) (w : World) (h : i < 0 ∨ xs.length ≤ i) :
    Calls Try.prog 13 #[.slice a xs.length c, .int .i64 i] w fun e w' => e = .returned (.tuple #[.slice none 0 0, .bool false]) ∧ Below w.heap.size w w' := by
  by_cases h0 : i < 0
  · have d0 : decide (i < 0) = true := decide_eq_true h0
    go_enter Try.func13, Try.ntmps13
    go_wp2
    go_ret2
    exact ⟨rfl, Below.refl _ _⟩
  · have d0 : decide (i < 0) = false := decide_eq_false h0
    have d1 : decide (i ≥ (xs.length : Int)) = true := decide_eq_true (by omega)
    go_enter Try.func13, Try.ntmps13
    go_wp2
    go_ret2
    exact ⟨rfl, Below.refl _ _⟩

set_option maxHeartbeats 1000000 in
theorem proof_yes (i : Int) (a : Option Addr) (c : Nat) (xs : List Int) (w : World) (h0 : 0 ≤ i) (h1 : i < xs.length) (hx : Ints .u64 w a xs) (hc : xs.length ≤ c) (hl : xs.length ≤ 1099511627776) :
    Calls Try.prog 13 #[.slice a xs.length c, .int .i64 i] w fun e w' => ∃ v, e = .returned (.tuple #[v, .bool true]) ∧ w'.ownsRow w.heap.size 24 1 v (pathOf xs i.toNat).length ((pathOf xs i.toNat).map (Value.int .u64)) ∧ Below w.heap.size w w' := by
  have d0 : decide (i < 0) = false := decide_eq_false (by omega)
  have d1 : decide (i ≥ (xs.length : Int)) = false := decide_eq_false (by omega)
  have C := path_any xs.length i a c xs w (Nat.le_refl _) h0 h1 hx hc hl
  have CC := Lib.hid C
  clear C
  go_enter Try.func13, Try.ntmps13
  go_wp2_with fail
  refine CC.out.mono ?_
  rintro e w1 ⟨v, rfl, ho, hb⟩
  go_wp2
  go_ret2
  exact ⟨_, rfl, ho, hb⟩

set_option maxHeartbeats 1000000 in
theorem rproof_no (i : Int) (a : Option Addr) (c : Nat) (xs : List Int) (w : World) (h : i < 0 ∨ xs.length ≤ i) :
    Calls Try.prog 14 #[.slice a xs.length c, .int .i64 i] w fun e w' => e = .returned (.tuple #[.slice none 0 0, .bool false]) ∧ Below w.heap.size w w' := by
  by_cases h0 : i < 0
  · have d0 : decide (i < 0) = true := decide_eq_true h0
    go_enter Try.func14, Try.ntmps14
    go_wp2
    go_ret2
    exact ⟨rfl, Below.refl _ _⟩
  · have d0 : decide (i < 0) = false := decide_eq_false h0
    have d1 : decide (i ≥ (xs.length : Int)) = true := decide_eq_true (by omega)
    go_enter Try.func14, Try.ntmps14
    go_wp2
    go_ret2
    exact ⟨rfl, Below.refl _ _⟩

set_option maxHeartbeats 1000000 in
theorem rproof_yes (i : Int) (a : Option Addr) (c : Nat) (xs : List Int) (w : World) (h0 : 0 ≤ i) (h1 : i < xs.length) (hx : Ints .u64 w a xs) (hc : xs.length ≤ c) (hl : xs.length ≤ 1099511627776) :
    Calls Try.prog 14 #[.slice a xs.length c, .int .i64 i] w fun e w' => ∃ v, e = .returned (.tuple #[v, .bool true]) ∧ w'.ownsRow w.heap.size 24 1 v (pathOf xs i.toNat).length ((pathOf xs i.toNat).map (Value.int .u64)) ∧ Below w.heap.size w w' := by
  have d0 : decide (i < 0) = false := decide_eq_false (by omega)
  have d1 : decide (i ≥ (xs.length : Int)) = false := decide_eq_false (by omega)
  have C := rpath_any xs.length i a c xs w (Nat.le_refl _) h0 h1 hx hc hl
  have CC := Lib.hid C
  clear C
  go_enter Try.func14, Try.ntmps14
  go_wp2_with fail
  refine CC.out.mono ?_
  rintro e w1 ⟨v, rfl, ho, hb⟩
  go_wp2
  go_ret2
  exact ⟨_, rfl, ho, hb⟩

end Go.Proofs.Ytibakdebmclkiaa
