/- The closures of front. -/
import Derived.Test.YtdfnpknekjgkiaaD1
import Derived.Test.YtdfnpknekjgkiaaWLast
namespace Go.Proofs.Ytdfnpknekjgkiaa
open Go.RowKit
set_option linter.unusedVariables false
set_option linter.unusedSimpArgs false
open Go.Proofs.YtdfnpknekjgkiaaW.PrintLast

theorem below_keep {w w' : World} {x : Addr} {v : Value} (hb : Below w.heap.size w w') (h : w.cell? x = some v) : w'.cell? x = some v := by
  rw [hb.cell (World.block_lt_of_cell? _ _ h)]; exact h
theorem vals_bool {w : World} {a : Option Addr} {bs : List Bool} (h : Vals w a (bs.map Value.bool)) {k : Nat} (hk : k < bs.length) : ∃ x, a = some x ∧ w.cell? (x.add k) = some (.bool (bs.getD k true)) := by
  obtain ⟨x, hx, hc⟩ := h.at (i := k) (v := .bool bs[k]) (by simp [hk])
  exact ⟨x, hx, by rw [hc]; simp [hk]⟩
set_option maxRecDepth 100000 in
set_option maxHeartbeats 4000000 in
theorem front1_any (l : Shares) (ts : List ByteArray) (done : List Bool) (w : World) (ad al : Option Addr) (cd cl BD BL BP k p : Nat)
    (hD : w.cell? ⟨BD, 0, none⟩ = some (.slice ad done.length cd)) (hL : w.cell? ⟨BL, 0, none⟩ = some (.slice al l.length cl)) (hP : w.cell? ⟨BP, 0, none⟩ = some (.int .i64 p))
    (hx : Shs w al l) (hd : Vals w ad (done.map Value.bool)) (hk : k < ts.length) (hdl : done.length = ts.length) (hc : l.length ≤ cl) (hl : l.length ≤ 1000000) (hcd : done.length ≤ cd) (htl : ts.length ≤ 1000000) (hp : p ≤ l.length) :
    Calls Try.prog 43 #[.int .i64 k, rqVal k (ts.getD k default), .pointer (some ⟨BD, 0, none⟩), .pointer (some ⟨BL, 0, none⟩), .pointer (some ⟨BP, 0, none⟩)] w fun e w' => e = .returned (.bool (decide (live l ts done p k))) ∧ Below w.heap.size w w' := by
  obtain ⟨x, rfl, hdc⟩ := vals_bool hd (k := k) (by omega)
  have hlv : live l ts done p k ↔ done.getD k true = false ∧ partyOf l (ts.getD k default) = p := Iff.rfl
  generalize ts.getD k default = t at *
  generalize done.getD k true = b at *
  generalize hn : done.length = n at *
  obtain ⟨W1, hW1⟩ : ∃ W1, W1 = w.alloc (.cells #[.int .i64 (k + 1), .string t, .string AS, .int .i64 0, .int .i64 1, .int .i64 k, .int .i64 1099511627776] 54) := ⟨_, rfl⟩
  have hb1 : Below w.heap.size w W1 := by rw [hW1]; exact below_alloc (Below.refl _ _) _
  have hx1 := hx.below hb1
  have hs1 : w.heap.size < W1.heap.size := by rw [hW1]; simp
  have c0 : W1.cell? ⟨w.heap.size, 0, none⟩ = some (.int .i64 (k + 1)) := by rw [hW1, World.cell?_alloc_mark]; rfl
  have c1 : W1.cell? ⟨w.heap.size, 1, none⟩ = some (.string t) := by rw [hW1, World.cell?_alloc_mark]; rfl
  have c2 : W1.cell? ⟨w.heap.size, 2, none⟩ = some (.string AS) := by rw [hW1, World.cell?_alloc_mark]; rfl
  have c3 : W1.cell? ⟨w.heap.size, 3, none⟩ = some (.int .i64 0) := by rw [hW1, World.cell?_alloc_mark]; rfl
  have c4 : W1.cell? ⟨w.heap.size, 4, none⟩ = some (.int .i64 1) := by rw [hW1, World.cell?_alloc_mark]; rfl
  have c5 : W1.cell? ⟨w.heap.size, 5, none⟩ = some (.int .i64 k) := by rw [hW1, World.cell?_alloc_mark]; rfl
  have c6 : W1.cell? ⟨w.heap.size, 6, none⟩ = some (.int .i64 1099511627776) := by rw [hW1, World.cell?_alloc_mark]; rfl
  have K : ∀ wx, Below W1.heap.size W1 wx → Below W1.heap.size W1 wx ∧ wx.cell? ⟨BD, 0, none⟩ = some (.slice (some x) n cd) ∧ wx.cell? (x.add k) = some (.bool b) ∧ wx.cell? ⟨BL, 0, none⟩ = some (.slice al l.length cl) ∧ wx.cell? ⟨BP, 0, none⟩ = some (.int .i64 p) ∧ wx.cell? ⟨w.heap.size, 0, none⟩ = some (.int .i64 (k + 1)) ∧ wx.cell? ⟨w.heap.size, 1, none⟩ = some (.string t) ∧ wx.cell? ⟨w.heap.size, 2, none⟩ = some (.string AS) ∧ wx.cell? ⟨w.heap.size, 3, none⟩ = some (.int .i64 0) ∧ wx.cell? ⟨w.heap.size, 4, none⟩ = some (.int .i64 1) ∧ wx.cell? ⟨w.heap.size, 5, none⟩ = some (.int .i64 k) ∧ wx.cell? ⟨w.heap.size, 6, none⟩ = some (.int .i64 1099511627776) := fun wx hb =>
    ⟨hb, below_keep (Below.next hb1 hb) hD, below_keep (Below.next hb1 hb) hdc, below_keep (Below.next hb1 hb) hL, below_keep (Below.next hb1 hb) hP, below_keep hb c0, below_keep hb c1, below_keep hb c2, below_keep hb c3, below_keep hb c4, below_keep hb c5, below_keep hb c6⟩
  have S0 := K W1.drew (Below.refl _ _).drew
  have KK := Lib.hid K
  have HB1 := Lib.hid hb1
  have g0 : (0 : Int) ≤ (k : Int) := by omega
  have g1 : (k : Int) < (n : Int) := by omega
  have I1 : Hid (∀ wx, Below W1.heap.size W1 wx → Calls Try.prog 44 #[.slice al l.length cl, .agg #[.int .i64 (k + 1), .string t, .string AS, .int .i64 0, .int .i64 1, .int .i64 k, .int .i64 1099511627776]] wx fun e w' => e = .returned (.int .i64 (partyOf l t)) ∧ Below W1.heap.size W1 w') := Lib.hid fun wx hb => (party_any l al cl k t wx (hx1.below hb) hc hl).mono fun e w' h => ⟨h.1, Below.next hb h.2⟩
  have HLV := Lib.hid hlv
  clear K c0 c1 c2 c3 c4 c5 c6 hD hL hP hdc hd hx hx1 hb1 hlv hs1 hdl hn
  unfold rqVal
  cases b
  · have q1 : ((partyOf l t : Int) == (p : Int)) = decide (partyOf l t = p) := by
      by_cases h : partyOf l t = p
      · rw [decide_eq_true h, h]; simp
      · rw [decide_eq_false h, beq_eq_false_iff_ne]; omega
    have HV : Hid (decide (live l ts done p k) = decide (partyOf l t = p)) := by
      by_cases h : partyOf l t = p
      · rw [decide_eq_true h, decide_eq_true (HLV.out.2 ⟨rfl, h⟩)]; exact Lib.hid rfl
      · rw [decide_eq_false h, decide_eq_false (fun h2 => h (HLV.out.1 h2).2)]; exact Lib.hid rfl
    clear HLV
    generalize partyOf l t = pt at *
    go_enter Try.func43, Try.ntmps43
    go_wp2
    rw [← hW1]
    clear hW1
    refine start_ (n := 13) (S := (fun wx => Below W1.heap.size W1 wx ∧ wx.cell? ⟨BD, 0, none⟩ = some (.slice (some x) n cd) ∧ wx.cell? (x.add k) = some (.bool false) ∧ wx.cell? ⟨BL, 0, none⟩ = some (.slice al l.length cl) ∧ wx.cell? ⟨BP, 0, none⟩ = some (.int .i64 p) ∧ wx.cell? ⟨w.heap.size, 0, none⟩ = some (.int .i64 (k + 1)) ∧ wx.cell? ⟨w.heap.size, 1, none⟩ = some (.string t) ∧ wx.cell? ⟨w.heap.size, 2, none⟩ = some (.string AS) ∧ wx.cell? ⟨w.heap.size, 3, none⟩ = some (.int .i64 0) ∧ wx.cell? ⟨w.heap.size, 4, none⟩ = some (.int .i64 1) ∧ wx.cell? ⟨w.heap.size, 5, none⟩ = some (.int .i64 k) ∧ wx.cell? ⟨w.heap.size, 6, none⟩ = some (.int .i64 1099511627776))) (ds := []) #[false, false, false, false, false, false, false, false, false, false, false, false, false] (by kernel_rfl) rfl rfl S0 (fun hHeld => ?_)
    refine take_ (i := 0) (N := some 8) (v := ?_) (a' := ?_) #[true, false, false, false, false, false, false, false, false, false, false, false, false] rfl rfl (by kernel_rfl) (fun _ _ _ h => h) (Or.inl ⟨by rfl, ?_⟩) hHeld ?_ ?_
    rotate_left
    · rintro w' ⟨s0, s1, s2, s3, s4, s5, s6, s7, s8, s9, s10, s11⟩
      go_simp
      try with_reducible rfl
    rotate_left
    · simp only [Act.put, List.setIfInBounds_toArray, List.set_cons_zero, List.set_cons_succ]
      rfl
    refine pure_ (i := 1) (N := some 9) (v := ?_) (a' := ?_) #[true, true, false, false, false, false, false, false, false, false, false, false, false] rfl rfl (by kernel_rfl) (fun _ _ _ h => h) (Or.inl ⟨by rfl, ?_⟩) ?_ ?_
    rotate_left
    · intro w'
      go_simp
      try with_reducible rfl
    rotate_left
    · simp only [Act.put, List.setIfInBounds_toArray, List.set_cons_zero, List.set_cons_succ]
      rfl
    refine pure_ (i := 2) (N := some 10) (v := ?_) (a' := ?_) #[true, true, true, false, false, false, false, false, false, false, false, false, false] rfl rfl (by kernel_rfl) (fun _ _ _ h => h) (Or.inl ⟨by rfl, ?_⟩) ?_ ?_
    rotate_left
    · intro w'
      go_simp
      try with_reducible rfl
    rotate_left
    · simp only [Act.put, List.setIfInBounds_toArray, List.set_cons_zero, List.set_cons_succ]
      rfl
    refine take_ (i := 3) (N := some 11) (v := ?_) (a' := ?_) #[true, true, true, true, false, false, false, false, false, false, false, false, false] rfl rfl (by kernel_rfl) (fun _ _ _ h => h) (Or.inl ⟨by rfl, ?_⟩) hHeld ?_ ?_
    rotate_left
    · rintro w' ⟨s0, s1, s2, s3, s4, s5, s6, s7, s8, s9, s10, s11⟩
      go_simp
      try with_reducible rfl
    rotate_left
    · simp only [Act.put, List.setIfInBounds_toArray, List.set_cons_zero, List.set_cons_succ]
      rfl
    refine pure_ (i := 4) (N := some 12) (v := ?_) (a' := ?_) #[true, true, true, true, true, false, false, false, false, false, false, false, false] rfl rfl (by kernel_rfl) (fun _ _ _ h => h) (Or.inl ⟨by rfl, ?_⟩) ?_ ?_
    rotate_left
    · intro w'
      go_simp
      try with_reducible rfl
    rotate_left
    · simp only [Act.put, List.setIfInBounds_toArray, List.set_cons_zero, List.set_cons_succ]
      rfl
    refine pure_ (i := 5) (N := some 13) (v := ?_) (a' := ?_) #[true, true, true, true, true, true, false, false, false, false, false, false, false] rfl rfl (by kernel_rfl) (fun _ _ _ h => h) (Or.inl ⟨by rfl, ?_⟩) ?_ ?_
    rotate_left
    · intro w'
      go_simp
      try with_reducible rfl
    rotate_left
    · simp only [Act.put, List.setIfInBounds_toArray, List.set_cons_zero, List.set_cons_succ]
      rfl
    refine take_ (i := 6) (N := some 14) (v := ?_) (a' := ?_) #[true, true, true, true, true, true, true, false, false, false, false, false, false] rfl rfl (by kernel_rfl) (fun _ _ _ h => h) (Or.inl ⟨by rfl, ?_⟩) hHeld ?_ ?_
    rotate_left
    · rintro w' ⟨s0, s1, s2, s3, s4, s5, s6, s7, s8, s9, s10, s11⟩
      go_simp
      try with_reducible rfl
    rotate_left
    · simp only [Act.put, List.setIfInBounds_toArray, List.set_cons_zero, List.set_cons_succ]
      rfl
    refine take_ (i := 7) (N := some 15) (v := ?_) (a' := ?_) #[true, true, true, true, true, true, true, true, false, false, false, false, false] rfl rfl (by kernel_rfl) (fun _ _ _ h => h) (Or.inl ⟨by rfl, ?_⟩) hHeld ?_ ?_
    rotate_left
    · rintro w' ⟨s0, s1, s2, s3, s4, s5, s6, s7, s8, s9, s10, s11⟩
      go_simp
      try with_reducible rfl
    rotate_left
    · simp only [Act.put, List.setIfInBounds_toArray, List.set_cons_zero, List.set_cons_succ]
      rfl
    refine take_ (i := 9) (N := some 17) (v := ?_) (a' := ?_) #[true, true, true, true, true, true, true, true, false, true, false, false, false] rfl rfl (by kernel_rfl) (fun _ _ _ h => h) (Or.inl ⟨by rfl, ?_⟩) hHeld ?_ ?_
    rotate_left
    · rintro w' ⟨s0, s1, s2, s3, s4, s5, s6, s7, s8, s9, s10, s11⟩
      go_simp
      try with_reducible rfl
    rotate_left
    · simp only [Act.put, List.setIfInBounds_toArray, List.set_cons_zero, List.set_cons_succ]
      rfl
    refine one_ (i := 8) (N := some 16) #[true, true, true, true, true, true, true, true, true, true, false, false, false] rfl rfl (by kernel_rfl) (by decide) (fun K hK => ?_)
    go_simp
    refine (I1.out _ hHeld.1).mono ?_
    rintro e w2 ⟨rfl, hb2⟩
    refine hK.out _ _ (KK.out _ hb2) (fun hHeld => ?_)
    clear hK K
    try simp only [Act.put, List.setIfInBounds_toArray, List.set_cons_zero, List.set_cons_succ]
    refine pure_ (i := 10) (N := some 18) (v := ?_) (a' := ?_) #[true, true, true, true, true, true, true, true, true, true, true, false, false] rfl rfl (by kernel_rfl) (fun _ _ _ h => h) (Or.inl ⟨by rfl, ?_⟩) ?_ ?_
    rotate_left
    · intro w'
      go_simp
      try with_reducible rfl
    rotate_left
    · simp only [Act.put, List.setIfInBounds_toArray, List.set_cons_zero, List.set_cons_succ]
      rfl
    refine pure_ (i := 11) (N := some 19) (v := ?_) (a' := ?_) #[true, true, true, true, true, true, true, true, true, true, true, true, false] rfl rfl (by kernel_rfl) (fun _ _ _ h => h) (Or.inl ⟨by rfl, ?_⟩) ?_ ?_
    rotate_left
    · intro w'
      go_simp
      try with_reducible rfl
    rotate_left
    · simp only [Act.put, List.setIfInBounds_toArray, List.set_cons_zero, List.set_cons_succ]
      rfl
    refine pure_ (i := 12) (N := some 7) (v := ?_) (a' := ?_) #[true, true, true, true, true, true, true, true, true, true, true, true, true] rfl rfl (by kernel_rfl) (fun _ _ _ h => h) (Or.inl ⟨by rfl, ?_⟩) ?_ ?_
    rotate_left
    · intro w'
      go_simp
      try with_reducible rfl
    rotate_left
    · simp only [Act.put, List.setIfInBounds_toArray, List.set_cons_zero, List.set_cons_succ]
      rfl
    refine done_ (by kernel_rfl) ?_
    go_wp2
    go_ret
    exact ⟨by rw [HV.out]; rfl, Below.next HB1.out hb2⟩
  · have HV : Hid (decide (live l ts done p k) = false) := Lib.hid (decide_eq_false (fun h => by cases (HLV.out.1 h).1))
    clear HLV
    go_enter Try.func43, Try.ntmps43
    go_wp2
    rw [← hW1]
    clear hW1
    refine start_ (n := 13) (S := (fun wx => Below W1.heap.size W1 wx ∧ wx.cell? ⟨BD, 0, none⟩ = some (.slice (some x) n cd) ∧ wx.cell? (x.add k) = some (.bool true) ∧ wx.cell? ⟨BL, 0, none⟩ = some (.slice al l.length cl) ∧ wx.cell? ⟨BP, 0, none⟩ = some (.int .i64 p) ∧ wx.cell? ⟨w.heap.size, 0, none⟩ = some (.int .i64 (k + 1)) ∧ wx.cell? ⟨w.heap.size, 1, none⟩ = some (.string t) ∧ wx.cell? ⟨w.heap.size, 2, none⟩ = some (.string AS) ∧ wx.cell? ⟨w.heap.size, 3, none⟩ = some (.int .i64 0) ∧ wx.cell? ⟨w.heap.size, 4, none⟩ = some (.int .i64 1) ∧ wx.cell? ⟨w.heap.size, 5, none⟩ = some (.int .i64 k) ∧ wx.cell? ⟨w.heap.size, 6, none⟩ = some (.int .i64 1099511627776))) (ds := []) #[false, false, false, false, false, false, false, false, false, false, false, false, false] (by kernel_rfl) rfl rfl S0 (fun hHeld => ?_)
    refine take_ (i := 0) (N := some 8) (v := ?_) (a' := ?_) #[true, false, false, false, false, false, false, false, false, false, false, false, false] rfl rfl (by kernel_rfl) (fun _ _ _ h => h) (Or.inl ⟨by rfl, ?_⟩) hHeld ?_ ?_
    rotate_left
    · rintro w' ⟨s0, s1, s2, s3, s4, s5, s6, s7, s8, s9, s10, s11⟩
      go_simp
      try with_reducible rfl
    rotate_left
    · simp only [Act.put, List.setIfInBounds_toArray, List.set_cons_zero, List.set_cons_succ]
      rfl
    refine pure_ (i := 1) (N := some 9) (v := ?_) (a' := ?_) #[true, true, false, false, false, false, false, false, false, false, false, false, false] rfl rfl (by kernel_rfl) (fun _ _ _ h => h) (Or.inl ⟨by rfl, ?_⟩) ?_ ?_
    rotate_left
    · intro w'
      go_simp
      try with_reducible rfl
    rotate_left
    · simp only [Act.put, List.setIfInBounds_toArray, List.set_cons_zero, List.set_cons_succ]
      rfl
    refine pure_ (i := 2) (N := some 10) (v := ?_) (a' := ?_) #[true, true, true, false, false, false, false, false, false, false, false, false, false] rfl rfl (by kernel_rfl) (fun _ _ _ h => h) (Or.inl ⟨by rfl, ?_⟩) ?_ ?_
    rotate_left
    · intro w'
      go_simp
      try with_reducible rfl
    rotate_left
    · simp only [Act.put, List.setIfInBounds_toArray, List.set_cons_zero, List.set_cons_succ]
      rfl
    refine take_ (i := 3) (N := some 11) (v := ?_) (a' := ?_) #[true, true, true, true, false, false, false, false, false, false, false, false, false] rfl rfl (by kernel_rfl) (fun _ _ _ h => h) (Or.inl ⟨by rfl, ?_⟩) hHeld ?_ ?_
    rotate_left
    · rintro w' ⟨s0, s1, s2, s3, s4, s5, s6, s7, s8, s9, s10, s11⟩
      go_simp
      try with_reducible rfl
    rotate_left
    · simp only [Act.put, List.setIfInBounds_toArray, List.set_cons_zero, List.set_cons_succ]
      rfl
    refine pure_ (i := 4) (N := some 12) (v := ?_) (a' := ?_) #[true, true, true, true, true, false, false, false, false, false, false, false, false] rfl rfl (by kernel_rfl) (fun _ _ _ h => h) (Or.inl ⟨by rfl, ?_⟩) ?_ ?_
    rotate_left
    · intro w'
      go_simp
      try with_reducible rfl
    rotate_left
    · simp only [Act.put, List.setIfInBounds_toArray, List.set_cons_zero, List.set_cons_succ]
      rfl
    refine pure_ (i := 5) (N := some 13) (v := ?_) (a' := ?_) #[true, true, true, true, true, true, false, false, false, false, false, false, false] rfl rfl (by kernel_rfl) (fun _ _ _ h => h) (Or.inl ⟨by rfl, ?_⟩) ?_ ?_
    rotate_left
    · intro w'
      go_simp
      try with_reducible rfl
    rotate_left
    · simp only [Act.put, List.setIfInBounds_toArray, List.set_cons_zero, List.set_cons_succ]
      rfl
    refine pure_ (i := 6) (N := some 14) (v := undef) (a' := ?_) #[true, true, true, true, true, true, true, false, false, false, false, false, false] rfl rfl (by kernel_rfl) (fun _ _ _ h => h) (Or.inr ⟨by rfl, rfl⟩) ?_ ?_
    rotate_left
    · simp only [Act.put, List.setIfInBounds_toArray, List.set_cons_zero, List.set_cons_succ]
      rfl
    refine pure_ (i := 7) (N := some 15) (v := undef) (a' := ?_) #[true, true, true, true, true, true, true, true, false, false, false, false, false] rfl rfl (by kernel_rfl) (fun _ _ _ h => h) (Or.inr ⟨by rfl, rfl⟩) ?_ ?_
    rotate_left
    · simp only [Act.put, List.setIfInBounds_toArray, List.set_cons_zero, List.set_cons_succ]
      rfl
    refine pure_ (i := 8) (N := some 16) (v := undef) (a' := ?_) #[true, true, true, true, true, true, true, true, true, false, false, false, false] rfl rfl (by kernel_rfl) (fun _ _ _ h => h) (Or.inr ⟨by rfl, rfl⟩) ?_ ?_
    rotate_left
    · simp only [Act.put, List.setIfInBounds_toArray, List.set_cons_zero, List.set_cons_succ]
      rfl
    refine pure_ (i := 9) (N := some 17) (v := undef) (a' := ?_) #[true, true, true, true, true, true, true, true, true, true, false, false, false] rfl rfl (by kernel_rfl) (fun _ _ _ h => h) (Or.inr ⟨by rfl, rfl⟩) ?_ ?_
    rotate_left
    · simp only [Act.put, List.setIfInBounds_toArray, List.set_cons_zero, List.set_cons_succ]
      rfl
    refine pure_ (i := 10) (N := some 18) (v := undef) (a' := ?_) #[true, true, true, true, true, true, true, true, true, true, true, false, false] rfl rfl (by kernel_rfl) (fun _ _ _ h => h) (Or.inr ⟨by rfl, rfl⟩) ?_ ?_
    rotate_left
    · simp only [Act.put, List.setIfInBounds_toArray, List.set_cons_zero, List.set_cons_succ]
      rfl
    refine pure_ (i := 11) (N := some 19) (v := ?_) (a' := ?_) #[true, true, true, true, true, true, true, true, true, true, true, true, false] rfl rfl (by kernel_rfl) (fun _ _ _ h => h) (Or.inl ⟨by rfl, ?_⟩) ?_ ?_
    rotate_left
    · intro w'
      go_simp
      try with_reducible rfl
    rotate_left
    · simp only [Act.put, List.setIfInBounds_toArray, List.set_cons_zero, List.set_cons_succ]
      rfl
    refine pure_ (i := 12) (N := some 7) (v := ?_) (a' := ?_) #[true, true, true, true, true, true, true, true, true, true, true, true, true] rfl rfl (by kernel_rfl) (fun _ _ _ h => h) (Or.inl ⟨by rfl, ?_⟩) ?_ ?_
    rotate_left
    · intro w'
      go_simp
      try with_reducible rfl
    rotate_left
    · simp only [Act.put, List.setIfInBounds_toArray, List.set_cons_zero, List.set_cons_succ]
      rfl
    refine done_ (by kernel_rfl) ?_
    go_wp2
    go_ret
    exact ⟨by rw [HV.out]; rfl, Below.next HB1.out (Below.refl _ _).drew⟩
end Go.Proofs.Ytdfnpknekjgkiaa
