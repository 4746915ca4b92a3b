/- The contracts of the links of beginnings, of the program and of the reference: both return one list. -/
import Derived.Test.YtibakdebmclkiaaA11
namespace Go.Proofs.Ytibakdebmclkiaa
open Go.RowKit
set_option linter.unusedVariables false
set_option linter.unusedSimpArgs false

/-- The link of a beginning. -/
def linkOf (l : List Int) (m : Nat) (top : Bool) : List Int :=
  if m = l.length then (if top = true then [] else [rootOf l])
  else if h : l.length ≤ 1 then []
  else if m ≤ splitOf l.length then linkOf (l.take (splitOf l.length)) m top ++ [rootOf (l.drop (splitOf l.length))]
  else linkOf (l.drop (splitOf l.length)) (m - splitOf l.length) false ++ [rootOf (l.take (splitOf l.length))]
termination_by l.length
decreasing_by
  · have := splitOf_lt (n := l.length) (by omega); rw [List.length_take]; omega
  · have := splitOf_pos l.length; rw [List.length_drop]; omega

theorem linkOf_length (d : Nat) : ∀ (l : List Int) (m : Nat) (top : Bool), l.length ≤ d → (linkOf l m top).length ≤ l.length + 1 := by
  induction d with
  | zero =>
    intro l m top h
    rw [linkOf]
    split
    · split <;> simp
    · rw [dif_pos (by omega)]; simp
  | succ d ih =>
    intro l m top h
    rw [linkOf]
    split
    · split <;> simp
    · by_cases h1 : l.length ≤ 1
      · rw [dif_pos h1]; simp
      · rw [dif_neg h1]
        have s1 := splitOf_lt (n := l.length) (by omega)
        have s2 := splitOf_pos l.length
        have l1 := List.length_take (l := l) (i := splitOf l.length)
        have l2 := List.length_drop (l := l) (i := splitOf l.length)
        have a1 := ih (l.take (splitOf l.length)) m top (by omega)
        have a2 := ih (l.drop (splitOf l.length)) (m - splitOf l.length) false (by omega)
        split <;> (rw [List.length_append, List.length_singleton]; omega)

set_option maxHeartbeats 2000000 in
theorem link_any (d : Nat) : ∀ (i : Int) (top : Bool) (a : Option Addr) (c : Nat) (xs : List Int) (w : World), xs.length ≤ d → 1 ≤ i → i ≤ xs.length → Ints .u64 w a xs → xs.length ≤ c → xs.length ≤ 1099511627776 →
    Calls Try.prog 40 #[.slice a xs.length c, .int .i64 i, .bool top] w fun e w' => ∃ v, e = .returned v ∧ w'.ownsRow w.heap.size 24 1 v (linkOf xs i.toNat top).length ((linkOf xs i.toNat top).map (Value.int .u64)) ∧ Below w.heap.size w w' := by
  induction d with
  | zero => intro i top a c xs w hd h0 hi; omega
  | succ d ih =>
    intro i top a c xs w hd h0 hi hx hc hl
    obtain ⟨i0, hi0, hz0, hz1, hz2⟩ := info_parts info24
    by_cases h1 : i = xs.length
    · subst h1
      have q1 : (((xs.length : Nat) : Int) == (xs.length : Int)) = true := beq_self_eq_true _
      cases top with
      | true =>
        have hfin : linkOf xs (xs.length : Int).toNat true = [] := by rw [linkOf, if_pos (Int.toNat_natCast _), if_pos rfl]
        rw [hfin]
        clear hfin
        go_enter Try.func40, Try.ntmps40
        go_wp2
        go_ret
        exact ⟨_, rfl, World.ownsRow_nil _ _ _ _, Below.refl _ _⟩
      | false =>
        have hfin : linkOf xs (xs.length : Int).toNat false = [rootOf xs] := by rw [linkOf, if_pos (Int.toNat_natCast _), if_neg (by decide)]
        rw [hfin]
        have R := Lib.hid (root_any _ a c xs w (Nat.le_refl _) hx hc (by omega))
        clear hfin
        go_enter Try.func40, Try.ntmps40
        go_wp2_with fail
        refine R.out.mono ?_
        rintro e w1 ⟨rfl, hb1⟩
        have HO := Lib.hid (World.ownsRow_lit (base := w.heap.size) (e := 24) (size := 1) w1 #[.int .u64 (rootOf xs)] 1 hb1.size (by unfold maxLen; omega) rfl)
        go_wp2
        go_ret
        exact ⟨_, rfl, HO.out, below_alloc hb1 _⟩
    · have q1 : (i == (xs.length : Int)) = false := beq_eq_false_iff_ne.2 h1
      have s1 := splitOf_lt (n := xs.length) (by omega)
      have s2 := splitOf_pos xs.length
      obtain ⟨a', hcut⟩ := cuts a c xs (splitOf xs.length) (by omega) hc
      have hcl := hcut.lo
      have hch := hcut.hi
      have l1 := List.length_take (l := xs) (i := splitOf xs.length)
      have l2 := List.length_drop (l := xs) (i := splitOf xs.length)
      by_cases hik : i ≤ splitOf xs.length
      · have p1 := linkOf_length _ (xs.take (splitOf xs.length)) i.toNat top (Nat.le_refl _)
        have i1 : ∀ wx, Below w.heap.size w wx → Calls Try.prog 40 #[.slice a (xs.take (splitOf xs.length)).length c, .int .i64 i, .bool top] wx fun e w' => ∃ v, e = .returned v ∧ w'.ownsRow w.heap.size 24 1 v (linkOf (xs.take (splitOf xs.length)) i.toNat top).length ((linkOf (xs.take (splitOf xs.length)) i.toNat top).map (Value.int .u64)) ∧ Below w.heap.size w w' :=
          fun wx hb => (ih i top a c _ wx (by rw [l1]; omega) h0 (by rw [l1]; omega) ((hcut.loI w hx).below hb) hcut.loL (by rw [l1]; omega)).mono fun e w' ⟨v, h1, h2, h3⟩ => ⟨v, h1, ownsRow_mono h2 hb.size, Below.next hb h3⟩
        have i2 : ∀ wx v n ys, Below w.heap.size w wx → wx.ownsRow w.heap.size 24 1 v n ys → Calls Try.prog 11 #[.slice a' (xs.drop (splitOf xs.length)).length (c - splitOf xs.length)] wx fun e w' => e = .returned (.int .u64 (rootOf (xs.drop (splitOf xs.length)))) ∧ w'.ownsRow w.heap.size 24 1 v n ys ∧ Below w.heap.size w w' :=
          fun wx v n ys hb ho => (root_any _ a' (c - splitOf xs.length) _ wx (Nat.le_refl _) ((hcut.hiI w hx).below hb) hcut.hiL (by rw [l2]; omega)).mono fun e w' h => ⟨h.1, ownsRow_below ho h.2, Below.next hb h.2⟩
        have I1 := Lib.hid i1
        have I2 := Lib.hid i2
        have HF : linkOf xs i.toNat top = linkOf (xs.take (splitOf xs.length)) i.toNat top ++ [rootOf (xs.drop (splitOf xs.length))] := by
          conv => lhs; rw [linkOf]
          rw [if_neg (by omega), dif_neg (by omega), if_pos (by omega)]
        rw [HF]
        have hpl : (linkOf (xs.take (splitOf xs.length)) i.toNat top).length ≤ 1099511627776 := by omega
        clear i1 i2 l1 l2 HF ih hcut p1
        generalize linkOf (xs.take (splitOf xs.length)) i.toNat top = p at *
        generalize xs.take (splitOf xs.length) = lo at *
        generalize hrt : rootOf (xs.drop (splitOf xs.length)) = rt at *
        generalize xs.drop (splitOf xs.length) = hi at *
        clear hrt
        · go_enter Try.func40, Try.ntmps40
          go_wp2_with (first | (go_at_call 28; refine (split_any _ _ (by omega) (by omega)).mono ?_; rintro e w' ⟨rfl, rfl⟩))
          go_region_held3 (fun wx => Below w.heap.size w wx) (with_reducible first | assumption | exact (Below.refl _ _).drew | exact Below.refl _ _ | exact below_alloc (by assumption) _) (first | (go_at_call 40; (with_reducible refine (I1.out _ ?_).mono ?_); (with_reducible assumption); rintro e w1 ⟨v1, rfl, hown1, hb1⟩) | (go_at_call 11; (with_reducible refine (I2.out _ _ _ _ hb1 hown1).mono ?_); rintro e w2 ⟨rfl, hown2, hb2⟩) | (refine step_append_lies _ (by rfl) _ _ _ (by rfl) w.heap.size 24 i0 _ 1 8 Try.underlying22 hi0 hz0 hz1 hz2 rfl (by omega) v1 p.length (p.map (Value.int .u64)) (by rfl) (hown2.alloc _) ⟨w2.heap.size, 0, none⟩ 1 1 [.int .u64 rt] (by rfl) (by rfl) (cell_one_new _ _ _) (by simp [Value.oneCell']) (by omega) (by unfold maxLen; omega) (by omega) (by have := hb2.size; simp; omega) (w2.heap.size + 1) (by simp) ?_; intro gg cap w3 hown3 hgrow3 hat3 hlt3; have hb3 := below_app (below_alloc hb2 _) hgrow3 (hown2.alloc _)))
          go_wp2
          go_ret
          exact ⟨_, rfl, own_snoc hown3 (by simp), hb3⟩
      · have p1 := linkOf_length _ (xs.drop (splitOf xs.length)) (i.toNat - splitOf xs.length) false (Nat.le_refl _)
        have i1 : ∀ wx, Below w.heap.size w wx → Calls Try.prog 40 #[.slice a' (xs.drop (splitOf xs.length)).length (c - splitOf xs.length), .int .i64 (i - splitOf xs.length), .bool false] wx fun e w' => ∃ v, e = .returned v ∧ w'.ownsRow w.heap.size 24 1 v (linkOf (xs.drop (splitOf xs.length)) (i.toNat - splitOf xs.length) false).length ((linkOf (xs.drop (splitOf xs.length)) (i.toNat - splitOf xs.length) false).map (Value.int .u64)) ∧ Below w.heap.size w w' := by
          intro wx hb
          have := ih (i - splitOf xs.length) false a' (c - splitOf xs.length) _ wx (by rw [l2]; omega) (by omega) (by rw [l2]; omega) ((hcut.hiI w hx).below hb) hcut.hiL (by rw [l2]; omega)
          rw [show (i - (splitOf xs.length : Int)).toNat = i.toNat - splitOf xs.length from by omega] at this
          exact this.mono fun e w' ⟨v, h1, h2, h3⟩ => ⟨v, h1, ownsRow_mono h2 hb.size, Below.next hb h3⟩
        have i2 : ∀ wx v n ys, Below w.heap.size w wx → wx.ownsRow w.heap.size 24 1 v n ys → Calls Try.prog 11 #[.slice a (xs.take (splitOf xs.length)).length c] wx fun e w' => e = .returned (.int .u64 (rootOf (xs.take (splitOf xs.length)))) ∧ w'.ownsRow w.heap.size 24 1 v n ys ∧ Below w.heap.size w w' :=
          fun wx v n ys hb ho => (root_any _ a c _ wx (Nat.le_refl _) ((hcut.loI w hx).below hb) hcut.loL (by rw [l1]; omega)).mono fun e w' h => ⟨h.1, ownsRow_below ho h.2, Below.next hb h.2⟩
        have I1 := Lib.hid i1
        have I2 := Lib.hid i2
        have HF : linkOf xs i.toNat top = linkOf (xs.drop (splitOf xs.length)) (i.toNat - splitOf xs.length) false ++ [rootOf (xs.take (splitOf xs.length))] := by
          conv => lhs; rw [linkOf]
          rw [if_neg (by omega), dif_neg (by omega), if_neg (by omega)]
        rw [HF]
        have hpl : (linkOf (xs.drop (splitOf xs.length)) (i.toNat - splitOf xs.length) false).length ≤ 1099511627776 := by omega
        have hsw : IntKind.i64.wrap (i - splitOf xs.length) = i - splitOf xs.length := IntWalk.i64_in _ (by omega)
        clear i1 i2 l1 l2 HF ih hcut p1
        generalize linkOf (xs.drop (splitOf xs.length)) (i.toNat - splitOf xs.length) false = p at *
        generalize xs.drop (splitOf xs.length) = hi at *
        generalize hrt : rootOf (xs.take (splitOf xs.length)) = rt at *
        generalize xs.take (splitOf xs.length) = lo at *
        clear hrt
        · go_enter Try.func40, Try.ntmps40
          go_wp2_with (first | (go_at_call 28; refine (split_any _ _ (by omega) (by omega)).mono ?_; rintro e w' ⟨rfl, rfl⟩))
          go_region_held3 (fun wx => Below w.heap.size w wx) (with_reducible first | assumption | exact (Below.refl _ _).drew | exact Below.refl _ _ | exact below_alloc (by assumption) _) (first | (go_at_call 40; (with_reducible refine (I1.out _ ?_).mono ?_); (with_reducible assumption); rintro e w1 ⟨v1, rfl, hown1, hb1⟩) | (go_at_call 11; (with_reducible refine (I2.out _ _ _ _ hb1 hown1).mono ?_); rintro e w2 ⟨rfl, hown2, hb2⟩) | (refine step_append_lies _ (by rfl) _ _ _ (by rfl) w.heap.size 24 i0 _ 1 8 Try.underlying22 hi0 hz0 hz1 hz2 rfl (by omega) v1 p.length (p.map (Value.int .u64)) (by rfl) (hown2.alloc _) ⟨w2.heap.size, 0, none⟩ 1 1 [.int .u64 rt] (by rfl) (by rfl) (cell_one_new _ _ _) (by simp [Value.oneCell']) (by omega) (by unfold maxLen; omega) (by omega) (by have := hb2.size; simp; omega) (w2.heap.size + 1) (by simp) ?_; intro gg cap w3 hown3 hgrow3 hat3 hlt3; have hb3 := below_app (below_alloc hb2 _) hgrow3 (hown2.alloc _)))
          go_wp2
          go_ret
          exact ⟨_, rfl, own_snoc hown3 (by simp), hb3⟩

set_option maxHeartbeats 2000000 in
theorem rlink_any (d : Nat) : ∀ (i : Int) (top : Bool) (a : Option Addr) (c : Nat) (xs : List Int) (w : World), xs.length ≤ d → 1 ≤ i → i ≤ xs.length → Ints .u64 w a xs → xs.length ≤ c → xs.length ≤ 1099511627776 →
    Calls Try.prog 41 #[.slice a xs.length c, .int .i64 i, .bool top] w fun e w' => ∃ v, e = .returned v ∧ w'.ownsRow w.heap.size 24 1 v (linkOf xs i.toNat top).length ((linkOf xs i.toNat top).map (Value.int .u64)) ∧ Below w.heap.size w w' := by
  induction d with
  | zero => intro i top a c xs w hd h0 hi; omega
  | succ d ih =>
    intro i top a c xs w hd h0 hi hx hc hl
    obtain ⟨i0, hi0, hz0, hz1, hz2⟩ := info_parts info24
    by_cases h1 : i = xs.length
    · subst h1
      have q1 : (((xs.length : Nat) : Int) == (xs.length : Int)) = true := beq_self_eq_true _
      cases top with
      | true =>
        have hfin : linkOf xs (xs.length : Int).toNat true = [] := by rw [linkOf, if_pos (Int.toNat_natCast _), if_pos rfl]
        rw [hfin]
        clear hfin
        go_enter Try.func41, Try.ntmps41
        go_wp2
        go_ret
        exact ⟨_, rfl, World.ownsRow_nil _ _ _ _, Below.refl _ _⟩
      | false =>
        have hfin : linkOf xs (xs.length : Int).toNat false = [rootOf xs] := by rw [linkOf, if_pos (Int.toNat_natCast _), if_neg (by decide)]
        rw [hfin]
        have R := Lib.hid (rroot_any _ a c xs w (Nat.le_refl _) hx hc (by omega))
        clear hfin
        go_enter Try.func41, Try.ntmps41
        go_wp2_with fail
        refine R.out.mono ?_
        rintro e w1 ⟨rfl, hb1⟩
        have HO := Lib.hid (World.ownsRow_lit (base := w.heap.size) (e := 24) (size := 1) w1 #[.int .u64 (rootOf xs)] 1 hb1.size (by unfold maxLen; omega) rfl)
        go_wp2
        go_ret
        exact ⟨_, rfl, HO.out, below_alloc hb1 _⟩
    · have q1 : (i == (xs.length : Int)) = false := beq_eq_false_iff_ne.2 h1
      have s1 := splitOf_lt (n := xs.length) (by omega)
      have s2 := splitOf_pos xs.length
      obtain ⟨a', hcut⟩ := cuts a c xs (splitOf xs.length) (by omega) hc
      have hcl := hcut.lo
      have hch := hcut.hi
      have l1 := List.length_take (l := xs) (i := splitOf xs.length)
      have l2 := List.length_drop (l := xs) (i := splitOf xs.length)
      by_cases hik : i ≤ splitOf xs.length
      · have p1 := linkOf_length _ (xs.take (splitOf xs.length)) i.toNat top (Nat.le_refl _)
        have i1 : ∀ wx, Below w.heap.size w wx → Calls Try.prog 41 #[.slice a (xs.take (splitOf xs.length)).length c, .int .i64 i, .bool top] wx fun e w' => ∃ v, e = .returned v ∧ w'.ownsRow w.heap.size 24 1 v (linkOf (xs.take (splitOf xs.length)) i.toNat top).length ((linkOf (xs.take (splitOf xs.length)) i.toNat top).map (Value.int .u64)) ∧ Below w.heap.size w w' :=
          fun wx hb => (ih i top a c _ wx (by rw [l1]; omega) h0 (by rw [l1]; omega) ((hcut.loI w hx).below hb) hcut.loL (by rw [l1]; omega)).mono fun e w' ⟨v, h1, h2, h3⟩ => ⟨v, h1, ownsRow_mono h2 hb.size, Below.next hb h3⟩
        have i2 : ∀ wx v n ys, Below w.heap.size w wx → wx.ownsRow w.heap.size 24 1 v n ys → Calls Try.prog 12 #[.slice a' (xs.drop (splitOf xs.length)).length (c - splitOf xs.length)] wx fun e w' => e = .returned (.int .u64 (rootOf (xs.drop (splitOf xs.length)))) ∧ w'.ownsRow w.heap.size 24 1 v n ys ∧ Below w.heap.size w w' :=
          fun wx v n ys hb ho => (rroot_any _ a' (c - splitOf xs.length) _ wx (Nat.le_refl _) ((hcut.hiI w hx).below hb) hcut.hiL (by rw [l2]; omega)).mono fun e w' h => ⟨h.1, ownsRow_below ho h.2, Below.next hb h.2⟩
        have I1 := Lib.hid i1
        have I2 := Lib.hid i2
        have HF : linkOf xs i.toNat top = linkOf (xs.take (splitOf xs.length)) i.toNat top ++ [rootOf (xs.drop (splitOf xs.length))] := by
          conv => lhs; rw [linkOf]
          rw [if_neg (by omega), dif_neg (by omega), if_pos (by omega)]
        rw [HF]
        have hpl : (linkOf (xs.take (splitOf xs.length)) i.toNat top).length ≤ 1099511627776 := by omega
        clear i1 i2 l1 l2 HF ih hcut p1
        generalize linkOf (xs.take (splitOf xs.length)) i.toNat top = p at *
        generalize xs.take (splitOf xs.length) = lo at *
        generalize hrt : rootOf (xs.drop (splitOf xs.length)) = rt at *
        generalize xs.drop (splitOf xs.length) = hi at *
        clear hrt
        · go_enter Try.func41, Try.ntmps41
          go_wp2_with (first | (go_at_call 30; refine (rsplit_any _ _ (by omega) (by omega)).mono ?_; rintro e w' ⟨rfl, rfl⟩))
          refine (I1.out _ (Below.refl _ _)).mono ?_
          rintro e w1 ⟨v1, rfl, hown1, hb1⟩
          go_wp2_with fail
          refine (I2.out _ _ _ _ hb1 hown1).mono ?_
          rintro e w2 ⟨rfl, hown2, hb2⟩
          go_wp2_with (at_builtin; refine wpList_append_own _ rfl _ _ 22 rfl w.heap.size 24 i0 (.int .u64 0) 1 8 Try.underlying22 hi0 hz0 hz1 hz2 rfl (by decide) v1 p.length (p.map (Value.int .u64)) rfl (hown2.alloc _) ⟨w2.heap.size, 0, none⟩ 1 1 [.int .u64 rt] rfl rfl (cell_one_new _ _ _) (by simp [Value.oneCell']) (by unfold maxLen; omega) (by omega) (by have := hb2.size; simp; omega) ?_)
          intro v3 w3 hown3 hgrow3 _
          have hb3 := below_app (below_alloc hb2 _) hgrow3 (hown2.alloc _)
          have HO := Lib.hid (own_snoc (m := (p ++ [rt]).length) hown3 (by simp))
          clear hown3 hgrow3
          go_wp2
          go_ret
          exact ⟨_, rfl, HO.out, hb3⟩
      · have p1 := linkOf_length _ (xs.drop (splitOf xs.length)) (i.toNat - splitOf xs.length) false (Nat.le_refl _)
        have i1 : ∀ wx, Below w.heap.size w wx → Calls Try.prog 41 #[.slice a' (xs.drop (splitOf xs.length)).length (c - splitOf xs.length), .int .i64 (i - splitOf xs.length), .bool false] wx fun e w' => ∃ v, e = .returned v ∧ w'.ownsRow w.heap.size 24 1 v (linkOf (xs.drop (splitOf xs.length)) (i.toNat - splitOf xs.length) false).length ((linkOf (xs.drop (splitOf xs.length)) (i.toNat - splitOf xs.length) false).map (Value.int .u64)) ∧ Below w.heap.size w w' := by
          intro wx hb
          have := ih (i - splitOf xs.length) false a' (c - splitOf xs.length) _ wx (by rw [l2]; omega) (by omega) (by rw [l2]; omega) ((hcut.hiI w hx).below hb) hcut.hiL (by rw [l2]; omega)
          rw [show (i - (splitOf xs.length : Int)).toNat = i.toNat - splitOf xs.length from by omega] at this
          exact this.mono fun e w' ⟨v, h1, h2, h3⟩ => ⟨v, h1, ownsRow_mono h2 hb.size, Below.next hb h3⟩
        have i2 : ∀ wx v n ys, Below w.heap.size w wx → wx.ownsRow w.heap.size 24 1 v n ys → Calls Try.prog 12 #[.slice a (xs.take (splitOf xs.length)).length c] wx fun e w' => e = .returned (.int .u64 (rootOf (xs.take (splitOf xs.length)))) ∧ w'.ownsRow w.heap.size 24 1 v n ys ∧ Below w.heap.size w w' :=
          fun wx v n ys hb ho => (rroot_any _ a c _ wx (Nat.le_refl _) ((hcut.loI w hx).below hb) hcut.loL (by rw [l1]; omega)).mono fun e w' h => ⟨h.1, ownsRow_below ho h.2, Below.next hb h.2⟩
        have I1 := Lib.hid i1
        have I2 := Lib.hid i2
        have HF : linkOf xs i.toNat top = linkOf (xs.drop (splitOf xs.length)) (i.toNat - splitOf xs.length) false ++ [rootOf (xs.take (splitOf xs.length))] := by
          conv => lhs; rw [linkOf]
          rw [if_neg (by omega), dif_neg (by omega), if_neg (by omega)]
        rw [HF]
        have hpl : (linkOf (xs.drop (splitOf xs.length)) (i.toNat - splitOf xs.length) false).length ≤ 1099511627776 := by omega
        have hsw : IntKind.i64.wrap (i - splitOf xs.length) = i - splitOf xs.length := IntWalk.i64_in _ (by omega)
        clear i1 i2 l1 l2 HF ih hcut p1
        generalize linkOf (xs.drop (splitOf xs.length)) (i.toNat - splitOf xs.length) false = p at *
        generalize xs.drop (splitOf xs.length) = hi at *
        generalize hrt : rootOf (xs.take (splitOf xs.length)) = rt at *
        generalize xs.take (splitOf xs.length) = lo at *
        clear hrt
        · go_enter Try.func41, Try.ntmps41
          go_wp2_with (first | (go_at_call 30; refine (rsplit_any _ _ (by omega) (by omega)).mono ?_; rintro e w' ⟨rfl, rfl⟩))
          refine (I1.out _ (Below.refl _ _)).mono ?_
          rintro e w1 ⟨v1, rfl, hown1, hb1⟩
          go_wp2_with fail
          refine (I2.out _ _ _ _ hb1 hown1).mono ?_
          rintro e w2 ⟨rfl, hown2, hb2⟩
          go_wp2_with (at_builtin; refine wpList_append_own _ rfl _ _ 22 rfl w.heap.size 24 i0 (.int .u64 0) 1 8 Try.underlying22 hi0 hz0 hz1 hz2 rfl (by decide) v1 p.length (p.map (Value.int .u64)) rfl (hown2.alloc _) ⟨w2.heap.size, 0, none⟩ 1 1 [.int .u64 rt] rfl rfl (cell_one_new _ _ _) (by simp [Value.oneCell']) (by unfold maxLen; omega) (by omega) (by have := hb2.size; simp; omega) ?_)
          intro v3 w3 hown3 hgrow3 _
          have hb3 := below_app (below_alloc hb2 _) hgrow3 (hown2.alloc _)
          have HO := Lib.hid (own_snoc (m := (p ++ [rt]).length) hown3 (by simp))
          clear hown3 hgrow3
          go_wp2
          go_ret
          exact ⟨_, rfl, HO.out, hb3⟩

set_option maxHeartbeats 1000000 in
theorem prefix_no (i : Int) (a : Option Addr) (c : Nat) (xs : List Int) (w : World) (h : i < 1 ∨ xs.length < i) :
    Calls Try.prog 26 #[.slice a xs.length c, .int .i64 i] w fun e w' => e = .returned (.tuple #[.slice none 0 0, .bool false]) ∧ Below w.heap.size w w' := by
  by_cases h0 : i < 1
  · have d0 : decide (i < 1) = true := decide_eq_true h0
    go_enter Try.func26, Try.ntmps26
    go_wp2
    go_ret2
    exact ⟨rfl, Below.refl _ _⟩
  · have d0 : decide (i < 1) = false := decide_eq_false h0
    have d1 : decide (i > (xs.length : Int)) = true := decide_eq_true (by omega)
    go_enter Try.func26, Try.ntmps26
    go_wp2
    go_ret2
    exact ⟨rfl, Below.refl _ _⟩

set_option maxHeartbeats 1000000 in
theorem prefix_yes (i : Int) (a : Option Addr) (c : Nat) (xs : List Int) (w : World) (h0 : 1 ≤ i) (h1 : i ≤ xs.length) (hx : Ints .u64 w a xs) (hc : xs.length ≤ c) (hl : xs.length ≤ 1099511627776) :
    Calls Try.prog 26 #[.slice a xs.length c, .int .i64 i] w fun e w' => ∃ v, e = .returned (.tuple #[v, .bool true]) ∧ w'.ownsRow w.heap.size 24 1 v (linkOf xs i.toNat true).length ((linkOf xs i.toNat true).map (Value.int .u64)) ∧ Below w.heap.size w w' := by
  have d0 : decide (i < 1) = false := decide_eq_false (by omega)
  have d1 : decide (i > (xs.length : Int)) = false := decide_eq_false (by omega)
  have C := link_any xs.length i true a c xs w (Nat.le_refl _) h0 h1 hx hc hl
  have CC := Lib.hid C
  clear C
  go_enter Try.func26, Try.ntmps26
  go_wp2_with fail
  refine CC.out.mono ?_
  rintro e w1 ⟨v, rfl, ho, hb⟩
  go_wp2
  go_ret2
  exact ⟨_, rfl, ho, hb⟩

set_option maxHeartbeats 1000000 in
theorem rprefix_no (i : Int) (a : Option Addr) (c : Nat) (xs : List Int) (w : World) (h : i < 1 ∨ xs.length < i) :
    Calls Try.prog 27 #[.slice a xs.length c, .int .i64 i] w fun e w' => e = .returned (.tuple #[.slice none 0 0, .bool false]) ∧ Below w.heap.size w w' := by
  by_cases h0 : i < 1
  · have d0 : decide (i < 1) = true := decide_eq_true h0
    go_enter Try.func27, Try.ntmps27
    go_wp2
    go_ret2
    exact ⟨rfl, Below.refl _ _⟩
  · have d0 : decide (i < 1) = false := decide_eq_false h0
    have d1 : decide (i > (xs.length : Int)) = true := decide_eq_true (by omega)
    go_enter Try.func27, Try.ntmps27
    go_wp2
    go_ret2
    exact ⟨rfl, Below.refl _ _⟩

set_option maxHeartbeats 1000000 in
theorem rprefix_yes (i : Int) (a : Option Addr) (c : Nat) (xs : List Int) (w : World) (h0 : 1 ≤ i) (h1 : i ≤ xs.length) (hx : Ints .u64 w a xs) (hc : xs.length ≤ c) (hl : xs.length ≤ 1099511627776) :
    Calls Try.prog 27 #[.slice a xs.length c, .int .i64 i] w fun e w' => ∃ v, e = .returned (.tuple #[v, .bool true]) ∧ w'.ownsRow w.heap.size 24 1 v (linkOf xs i.toNat true).length ((linkOf xs i.toNat true).map (Value.int .u64)) ∧ Below w.heap.size w w' := by
  have d0 : decide (i < 1) = false := decide_eq_false (by omega)
  have d1 : decide (i > (xs.length : Int)) = false := decide_eq_false (by omega)
  have C := rlink_any xs.length i true a c xs w (Nat.le_refl _) h0 h1 hx hc hl
  have CC := Lib.hid C
  clear C
  go_enter Try.func27, Try.ntmps27
  go_wp2_with fail
  refine CC.out.mono ?_
  rintro e w1 ⟨v, rfl, ho, hb⟩
  go_wp2
  go_ret2
  exact ⟨_, rfl, ho, hb⟩

end Go.Proofs.Ytibakdebmclkiaa
