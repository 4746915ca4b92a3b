/- front and first. -/
import Derived.Test.YtdfnpknekjgkiaaD2
namespace Go.Proofs.Ytdfnpknekjgkiaa
open Go.RowKit
set_option linter.unusedVariables false
set_option linter.unusedSimpArgs false
open Go.Proofs.YtdfnpknekjgkiaaW.PrintLast

set_option maxRecDepth 100000 in
set_option maxHeartbeats 4000000 in
theorem front2_any (l : Shares) (w : World) (al : Option Addr) (cl BL BP p k1 k2 : Nat) (t1 t2 : ByteArray) (hL : w.cell? ⟨BL, 0, none⟩ = some (.slice al l.length cl)) (hP : w.cell? ⟨BP, 0, none⟩ = some (.int .i64 p)) (hl : l.length ≤ 1000000) (hp : p ≤ l.length) :
    Calls Try.prog 45 #[rqVal k1 t1, rqVal k2 t2, .pointer (some ⟨BP, 0, none⟩), .pointer (some ⟨BL, 0, none⟩)] w fun e w' => e = .returned (.bool (decide (p = l.length ∧ slt t1 t2 = true))) ∧ Below w.heap.size w w' := by
  have hb := below_alloc (below_alloc (Below.refl w.heap.size w) (.cells #[.int .i64 (k1 + 1), .string t1, .string AS, .int .i64 0, .int .i64 1, .int .i64 k1, .int .i64 1099511627776] 54)) (.cells #[.int .i64 (k2 + 1), .string t2, .string AS, .int .i64 0, .int .i64 1, .int .i64 k2, .int .i64 1099511627776] 54)
  have hL1 := below_keep hb hL
  have hP1 := below_keep hb hP
  have HB := Lib.hid hb
  clear hb hL hP
  unfold rqVal
  by_cases h : p = l.length
  · have HV : Hid (decide (p = l.length ∧ slt t1 t2 = true) = Op.bytesLess t1.toList t2.toList) := by
      refine Lib.hid ?_
      unfold slt
      cases h2 : Op.bytesLess t1.toList t2.toList <;> simp [h]
    have q : ((p : Int) == (l.length : Int)) = true := by rw [beq_iff_eq]; omega
    clear h
    go_enter Try.func45, Try.ntmps45
    go_wp2
    go_ret
    exact ⟨by rw [HV.out]; rfl, HB.out⟩
  · have HV : Hid (decide (p = l.length ∧ slt t1 t2 = true) = false) := Lib.hid (decide_eq_false (fun h2 => h h2.1))
    have q : ((p : Int) == (l.length : Int)) = false := by rw [beq_eq_false_iff_ne]; omega
    clear h
    go_enter Try.func45, Try.ntmps45
    go_wp2
    go_ret
    exact ⟨by rw [HV.out]; rfl, HB.out⟩
set_option maxRecDepth 100000 in
set_option maxHeartbeats 4000000 in
theorem first_any (l : Shares) (ts : List ByteArray) (done : List Bool) (w : World) (aq ad al : Option Addr) (cq cd cl BD BL BP p : Nat)
    (hD : w.cell? ⟨BD, 0, none⟩ = some (.slice ad done.length cd)) (hL : w.cell? ⟨BL, 0, none⟩ = some (.slice al l.length cl)) (hP : w.cell? ⟨BP, 0, none⟩ = some (.int .i64 p))
    (hq : Rqs w aq ts) (hx : Shs w al l) (hd : Vals w ad (done.map Value.bool)) (hdl : done.length = ts.length) (hc : l.length ≤ cl) (hl : l.length ≤ 1000000) (hcd : done.length ≤ cd) (hcq : ts.length ≤ cq) (htl : ts.length ≤ 1000000) (hp : p ≤ l.length) :
    Calls Try.prog 42 #[.slice aq ts.length cq, .func (.func 43) #[] #[.pointer (some ⟨BD, 0, none⟩), .pointer (some ⟨BL, 0, none⟩), .pointer (some ⟨BP, 0, none⟩)], .func (.func 45) #[] #[.pointer (some ⟨BP, 0, none⟩), .pointer (some ⟨BL, 0, none⟩)]] w fun e w' => e = .returned (.int .i64 (frontOf l ts done p)) ∧ Below w.heap.size w w' := by
  go_enter Try.func42, Try.ntmps42
  go_wp2
  go_loopw [7, 12] (fun best i wr => ∃ k : Nat, i = .int .i64 k ∧ k ≤ ts.length ∧ best = .int .i64 (frontTo l ts done p k) ∧ Hid (Below w.heap.size w wr)) (fun _ i _ => ts.length - (intOf i).toNat)
  case atStart => exact ⟨0, rfl, by omega, rfl, Lib.hid (Below.refl _ _)⟩
  case round =>
    obtain ⟨k, rfl, hk, rfl, HW⟩ := hrel
    by_cases h : k < ts.length
    · obtain ⟨x, rfl, hr⟩ := (hq.below HW.out).at h
      have htk : ts.getD k default = ts[k] := by simp [h]
      obtain ⟨W1, hW1⟩ : ∃ W1, W1 = wr.alloc (.cells #[.int .i64 (k + 1), .string (ts.getD k default), .string AS, .int .i64 0, .int .i64 1, .int .i64 k, .int .i64 1099511627776] 54) := ⟨_, rfl⟩
      have hbr : Below wr.heap.size wr W1 := by rw [hW1]; exact below_alloc (Below.refl _ _) _
      have hb1 : Below w.heap.size w W1 := Below.next HW.out hbr
      have I1 : ∀ wx, Below W1.heap.size W1 wx → Calls Try.prog 43 #[.int .i64 k, rqVal k (ts.getD k default), .pointer (some ⟨BD, 0, none⟩), .pointer (some ⟨BL, 0, none⟩), .pointer (some ⟨BP, 0, none⟩)] wx fun e w' => e = .returned (.bool (decide (live l ts done p k))) ∧ Below W1.heap.size W1 w' := fun wx hb =>
        (front1_any l ts done wx ad al cd cl BD BL BP k p (below_keep (Below.next hb1 hb) hD) (below_keep (Below.next hb1 hb) hL) (below_keep (Below.next hb1 hb) hP) (hx.below (Below.next hb1 hb)) (hd.below (Below.next hb1 hb)) h hdl hc hl hcd htl hp).mono fun e w' h => ⟨h.1, Below.next hb h.2⟩
      have I2 : ∀ wx, Below W1.heap.size W1 wx → ∀ b tb, Calls Try.prog 45 #[rqVal k (ts.getD k default), rqVal b tb, .pointer (some ⟨BP, 0, none⟩), .pointer (some ⟨BL, 0, none⟩)] wx fun e w' => e = .returned (.bool (decide (p = l.length ∧ slt (ts.getD k default) tb = true))) ∧ Below W1.heap.size W1 w' := fun wx hb b tb =>
        (front2_any l wx al cl BL BP p k b _ tb (below_keep (Below.next hb1 hb) hL) (below_keep (Below.next hb1 hb) hP) hl hp).mono fun e w' h => ⟨h.1, Below.next hb h.2⟩
      have hfr := frontTo_is l ts done p k
      have hft : (live l ts done p k ∧ (frontTo l ts done p k < 0 ∨ (p = l.length ∧ slt (ts.getD k default) (ts.getD (frontTo l ts done p k).toNat default) = true)) → frontTo l ts done p (k + 1) = (k : Int)) ∧ (¬ (live l ts done p k ∧ (frontTo l ts done p k < 0 ∨ (p = l.length ∧ slt (ts.getD k default) (ts.getD (frontTo l ts done p k).toNat default) = true))) → frontTo l ts done p (k + 1) = frontTo l ts done p k) := ⟨fun h => by rw [frontTo, if_pos h], fun h => by rw [frontTo, if_neg h]⟩
      have HQ : Hid (Rqs W1 (some x) ts) := Lib.hid (hq.below hb1)
      have hts : ∀ b, b < k → ts.getD b default = ts[b]?.getD default := fun _ _ => by simp
      rw [← htk] at hr
      generalize hT : ts.getD k default = t at *
      obtain ⟨r0, r1, r2, r3, r4, r5, r6⟩ := hr
      have hs1 : wr.heap.size < W1.heap.size := by rw [hW1]; simp
      have c0 : W1.cell? ⟨wr.heap.size, 0, none⟩ = some (.int .i64 (k + 1)) := by rw [hW1, World.cell?_alloc_mark]; rfl
      have c1 : W1.cell? ⟨wr.heap.size, 1, none⟩ = some (.string t) := by rw [hW1, World.cell?_alloc_mark]; rfl
      have c2 : W1.cell? ⟨wr.heap.size, 2, none⟩ = some (.string AS) := by rw [hW1, World.cell?_alloc_mark]; rfl
      have c3 : W1.cell? ⟨wr.heap.size, 3, none⟩ = some (.int .i64 0) := by rw [hW1, World.cell?_alloc_mark]; rfl
      have c4 : W1.cell? ⟨wr.heap.size, 4, none⟩ = some (.int .i64 1) := by rw [hW1, World.cell?_alloc_mark]; rfl
      have c5 : W1.cell? ⟨wr.heap.size, 5, none⟩ = some (.int .i64 k) := by rw [hW1, World.cell?_alloc_mark]; rfl
      have c6 : W1.cell? ⟨wr.heap.size, 6, none⟩ = some (.int .i64 1099511627776) := by rw [hW1, World.cell?_alloc_mark]; rfl
      have HB1 := Lib.hid hb1
      by_cases hlv : live l ts done p k
      case neg =>
        have HF : Hid (frontTo l ts done p (k + 1) = frontTo l ts done p k) := Lib.hid (hft.2 (fun h => hlv h.1))
        rw [decide_eq_false hlv] at I1
        have K : ∀ wx, Below W1.heap.size W1 wx → Below W1.heap.size W1 wx ∧ wx.cell? ⟨wr.heap.size, 0, none⟩ = some (.int .i64 (k + 1)) ∧ wx.cell? ⟨wr.heap.size, 1, none⟩ = some (.string t) ∧ wx.cell? ⟨wr.heap.size, 2, none⟩ = some (.string AS) ∧ wx.cell? ⟨wr.heap.size, 3, none⟩ = some (.int .i64 0) ∧ wx.cell? ⟨wr.heap.size, 4, none⟩ = some (.int .i64 1) ∧ wx.cell? ⟨wr.heap.size, 5, none⟩ = some (.int .i64 k) ∧ wx.cell? ⟨wr.heap.size, 6, none⟩ = some (.int .i64 1099511627776) := fun wx hb => ⟨hb, below_keep hb c0, below_keep hb c1, below_keep hb c2, below_keep hb c3, below_keep hb c4, below_keep hb c5, below_keep hb c6⟩
        have S0 := K W1.drew (Below.refl _ _).drew
        have KK := Lib.hid K
        unfold rqVal at I1
        replace I1 := Lib.hid I1
        generalize frontTo l ts done p k = best at *
        clear K I2 hfr hft hts hT htk hlv hb1 hbr hs1 c0 c1 c2 c3 c4 c5 c6 hD hL hP hq hx hd hdl
        go_wp2
        rw [← hW1]
        clear hW1
        refine start_ (n := 17) (S := (fun wx => Below W1.heap.size W1 wx ∧ wx.cell? ⟨wr.heap.size, 0, none⟩ = some (.int .i64 (k + 1)) ∧ wx.cell? ⟨wr.heap.size, 1, none⟩ = some (.string t) ∧ wx.cell? ⟨wr.heap.size, 2, none⟩ = some (.string AS) ∧ wx.cell? ⟨wr.heap.size, 3, none⟩ = some (.int .i64 0) ∧ wx.cell? ⟨wr.heap.size, 4, none⟩ = some (.int .i64 1) ∧ wx.cell? ⟨wr.heap.size, 5, none⟩ = some (.int .i64 k) ∧ wx.cell? ⟨wr.heap.size, 6, none⟩ = some (.int .i64 1099511627776))) (ds := []) #[false, false, false, false, false, false, false, false, false, false, false, false, false, false, false, false, false] (by kernel_rfl) rfl rfl S0 (fun hHeld => ?_)
        refine pure_ (i := 0) (N := some 17) (v := ?_) (a' := ?_) #[true, false, false, false, false, false, false, false, false, false, false, false, false, false, false, false, false] rfl rfl (by kernel_rfl) (fun _ _ _ h => h) (Or.inl ⟨by rfl, ?_⟩) ?_ ?_
        rotate_left
        · intro w'
          go_simp
          try with_reducible rfl
        rotate_left
        · simp only [Act.put, List.setIfInBounds_toArray, List.set_cons_zero, List.set_cons_succ]
          rfl
        refine pure_ (i := 1) (N := some 18) (v := ?_) (a' := ?_) #[true, true, false, false, false, false, false, false, false, false, false, false, false, false, false, false, false] rfl rfl (by kernel_rfl) (fun _ _ _ h => h) (Or.inl ⟨by rfl, ?_⟩) ?_ ?_
        rotate_left
        · intro w'
          go_simp
          try with_reducible rfl
        rotate_left
        · simp only [Act.put, List.setIfInBounds_toArray, List.set_cons_zero, List.set_cons_succ]
          rfl
        refine take_ (i := 2) (N := some 19) (v := ?_) (a' := ?_) #[true, true, true, false, false, false, false, false, false, false, false, false, false, false, false, false, false] rfl rfl (by kernel_rfl) (fun _ _ _ h => h) (Or.inl ⟨by rfl, ?_⟩) hHeld ?_ ?_
        rotate_left
        · rintro w' ⟨s0, s1, s2, s3, s4, s5, s6, s7⟩
          go_simp
          try with_reducible rfl
        rotate_left
        · simp only [Act.put, List.setIfInBounds_toArray, List.set_cons_zero, List.set_cons_succ]
          rfl
        refine one_ (i := 3) (N := some 20) #[true, true, true, true, false, false, false, false, false, false, false, false, false, false, false, false, false] rfl rfl (by kernel_rfl) (by decide) (fun K hK => ?_)
        go_simp
        refine (I1.out _ hHeld.1).mono ?_
        rintro e w2 ⟨rfl, hb2⟩
        refine hK.out _ _ (KK.out _ hb2) (fun hHeld => ?_)
        clear hK K
        try simp only [Act.put, List.setIfInBounds_toArray, List.set_cons_zero, List.set_cons_succ]
        refine pure_ (i := 4) (N := some 21) (v := ?_) (a' := ?_) #[true, true, true, true, true, false, false, false, false, false, false, false, false, false, false, false, false] rfl rfl (by kernel_rfl) (fun _ _ _ h => h) (Or.inl ⟨by rfl, ?_⟩) ?_ ?_
        rotate_left
        · intro w'
          go_simp
          try with_reducible rfl
        rotate_left
        · simp only [Act.put, List.setIfInBounds_toArray, List.set_cons_zero, List.set_cons_succ]
          rfl
        refine pure_ (i := 5) (N := some 22) (v := undef) (a' := ?_) #[true, true, true, true, true, true, false, false, false, false, false, false, false, false, false, false, false] rfl rfl (by kernel_rfl) (fun _ _ _ h => h) (Or.inr ⟨by rfl, rfl⟩) ?_ ?_
        rotate_left
        · simp only [Act.put, List.setIfInBounds_toArray, List.set_cons_zero, List.set_cons_succ]
          rfl
        refine pure_ (i := 6) (N := some 23) (v := undef) (a' := ?_) #[true, true, true, true, true, true, true, false, false, false, false, false, false, false, false, false, false] rfl rfl (by kernel_rfl) (fun _ _ _ h => h) (Or.inr ⟨by rfl, rfl⟩) ?_ ?_
        rotate_left
        · simp only [Act.put, List.setIfInBounds_toArray, List.set_cons_zero, List.set_cons_succ]
          rfl
        refine pure_ (i := 7) (N := some 24) (v := undef) (a' := ?_) #[true, true, true, true, true, true, true, true, false, false, false, false, false, false, false, false, false] rfl rfl (by kernel_rfl) (fun _ _ _ h => h) (Or.inr ⟨by rfl, rfl⟩) ?_ ?_
        rotate_left
        · simp only [Act.put, List.setIfInBounds_toArray, List.set_cons_zero, List.set_cons_succ]
          rfl
        refine pure_ (i := 8) (N := some 25) (v := undef) (a' := ?_) #[true, true, true, true, true, true, true, true, true, false, false, false, false, false, false, false, false] rfl rfl (by kernel_rfl) (fun _ _ _ h => h) (Or.inr ⟨by rfl, rfl⟩) ?_ ?_
        rotate_left
        · simp only [Act.put, List.setIfInBounds_toArray, List.set_cons_zero, List.set_cons_succ]
          rfl
        refine pure_ (i := 9) (N := some 26) (v := undef) (a' := ?_) #[true, true, true, true, true, true, true, true, true, true, false, false, false, false, false, false, false] rfl rfl (by kernel_rfl) (fun _ _ _ h => h) (Or.inr ⟨by rfl, rfl⟩) ?_ ?_
        rotate_left
        · simp only [Act.put, List.setIfInBounds_toArray, List.set_cons_zero, List.set_cons_succ]
          rfl
        refine pure_ (i := 10) (N := some 27) (v := undef) (a' := ?_) #[true, true, true, true, true, true, true, true, true, true, true, false, false, false, false, false, false] rfl rfl (by kernel_rfl) (fun _ _ _ h => h) (Or.inr ⟨by rfl, rfl⟩) ?_ ?_
        rotate_left
        · simp only [Act.put, List.setIfInBounds_toArray, List.set_cons_zero, List.set_cons_succ]
          rfl
        refine pure_ (i := 11) (N := some 28) (v := undef) (a' := ?_) #[true, true, true, true, true, true, true, true, true, true, true, true, false, false, false, false, false] rfl rfl (by kernel_rfl) (fun _ _ _ h => h) (Or.inr ⟨by rfl, rfl⟩) ?_ ?_
        rotate_left
        · simp only [Act.put, List.setIfInBounds_toArray, List.set_cons_zero, List.set_cons_succ]
          rfl
        refine pure_ (i := 12) (N := some 29) (v := undef) (a' := ?_) #[true, true, true, true, true, true, true, true, true, true, true, true, true, false, false, false, false] rfl rfl (by kernel_rfl) (fun _ _ _ h => h) (Or.inr ⟨by rfl, rfl⟩) ?_ ?_
        rotate_left
        · simp only [Act.put, List.setIfInBounds_toArray, List.set_cons_zero, List.set_cons_succ]
          rfl
        refine pure_ (i := 13) (N := some 30) (v := undef) (a' := ?_) #[true, true, true, true, true, true, true, true, true, true, true, true, true, true, false, false, false] rfl rfl (by kernel_rfl) (fun _ _ _ h => h) (Or.inr ⟨by rfl, rfl⟩) ?_ ?_
        rotate_left
        · simp only [Act.put, List.setIfInBounds_toArray, List.set_cons_zero, List.set_cons_succ]
          rfl
        refine pure_ (i := 14) (N := some 31) (v := undef) (a' := ?_) #[true, true, true, true, true, true, true, true, true, true, true, true, true, true, true, false, false] rfl rfl (by kernel_rfl) (fun _ _ _ h => h) (Or.inr ⟨by rfl, rfl⟩) ?_ ?_
        rotate_left
        · simp only [Act.put, List.setIfInBounds_toArray, List.set_cons_zero, List.set_cons_succ]
          rfl
        refine pure_ (i := 15) (N := some 32) (v := undef) (a' := ?_) #[true, true, true, true, true, true, true, true, true, true, true, true, true, true, true, true, false] rfl rfl (by kernel_rfl) (fun _ _ _ h => h) (Or.inr ⟨by rfl, rfl⟩) ?_ ?_
        rotate_left
        · simp only [Act.put, List.setIfInBounds_toArray, List.set_cons_zero, List.set_cons_succ]
          rfl
        refine pure_ (i := 16) (N := some 33) (v := ?_) (a' := ?_) #[true, true, true, true, true, true, true, true, true, true, true, true, true, true, true, true, true] rfl rfl (by kernel_rfl) (fun _ _ _ h => h) (Or.inl ⟨by rfl, ?_⟩) ?_ ?_
        rotate_left
        · intro w'
          go_simp
          try with_reducible rfl
        rotate_left
        · simp only [Act.put, List.setIfInBounds_toArray, List.set_cons_zero, List.set_cons_succ]
          rfl
        refine done_ (by kernel_rfl) ?_
        go_wp2
        go_roundw
        case rel => exact ⟨k + 1, by go_num, by omega, by rw [HF.out], Lib.hid (Below.next HB1.out hb2)⟩
        case measure => simp [intOf]; omega
      rw [decide_eq_true hlv] at I1
      by_cases hneg : frontTo l ts done p k < 0
      case pos =>
        have HF : Hid (frontTo l ts done p (k + 1) = (k : Int)) := Lib.hid (hft.1 ⟨hlv, .inl hneg⟩)
        have K : ∀ wx, Below W1.heap.size W1 wx → Below W1.heap.size W1 wx ∧ wx.cell? ⟨wr.heap.size, 0, none⟩ = some (.int .i64 (k + 1)) ∧ wx.cell? ⟨wr.heap.size, 1, none⟩ = some (.string t) ∧ wx.cell? ⟨wr.heap.size, 2, none⟩ = some (.string AS) ∧ wx.cell? ⟨wr.heap.size, 3, none⟩ = some (.int .i64 0) ∧ wx.cell? ⟨wr.heap.size, 4, none⟩ = some (.int .i64 1) ∧ wx.cell? ⟨wr.heap.size, 5, none⟩ = some (.int .i64 k) ∧ wx.cell? ⟨wr.heap.size, 6, none⟩ = some (.int .i64 1099511627776) := fun wx hb => ⟨hb, below_keep hb c0, below_keep hb c1, below_keep hb c2, below_keep hb c3, below_keep hb c4, below_keep hb c5, below_keep hb c6⟩
        have S0 := K W1.drew (Below.refl _ _).drew
        have KK := Lib.hid K
        have q : decide (frontTo l ts done p k < 0) = true := decide_eq_true hneg
        unfold rqVal at I1
        replace I1 := Lib.hid I1
        generalize frontTo l ts done p k = best at *
        clear K I2 hfr hft hts hT htk hlv hb1 hbr hs1 c0 c1 c2 c3 c4 c5 c6 hD hL hP hq hx hd hdl hneg
        go_wp2
        rw [← hW1]
        clear hW1
        refine start_ (n := 17) (S := (fun wx => Below W1.heap.size W1 wx ∧ wx.cell? ⟨wr.heap.size, 0, none⟩ = some (.int .i64 (k + 1)) ∧ wx.cell? ⟨wr.heap.size, 1, none⟩ = some (.string t) ∧ wx.cell? ⟨wr.heap.size, 2, none⟩ = some (.string AS) ∧ wx.cell? ⟨wr.heap.size, 3, none⟩ = some (.int .i64 0) ∧ wx.cell? ⟨wr.heap.size, 4, none⟩ = some (.int .i64 1) ∧ wx.cell? ⟨wr.heap.size, 5, none⟩ = some (.int .i64 k) ∧ wx.cell? ⟨wr.heap.size, 6, none⟩ = some (.int .i64 1099511627776))) (ds := []) #[false, false, false, false, false, false, false, false, false, false, false, false, false, false, false, false, false] (by kernel_rfl) rfl rfl S0 (fun hHeld => ?_)
        refine pure_ (i := 0) (N := some 17) (v := ?_) (a' := ?_) #[true, false, false, false, false, false, false, false, false, false, false, false, false, false, false, false, false] rfl rfl (by kernel_rfl) (fun _ _ _ h => h) (Or.inl ⟨by rfl, ?_⟩) ?_ ?_
        rotate_left
        · intro w'
          go_simp
          try with_reducible rfl
        rotate_left
        · simp only [Act.put, List.setIfInBounds_toArray, List.set_cons_zero, List.set_cons_succ]
          rfl
        refine pure_ (i := 1) (N := some 18) (v := ?_) (a' := ?_) #[true, true, false, false, false, false, false, false, false, false, false, false, false, false, false, false, false] rfl rfl (by kernel_rfl) (fun _ _ _ h => h) (Or.inl ⟨by rfl, ?_⟩) ?_ ?_
        rotate_left
        · intro w'
          go_simp
          try with_reducible rfl
        rotate_left
        · simp only [Act.put, List.setIfInBounds_toArray, List.set_cons_zero, List.set_cons_succ]
          rfl
        refine take_ (i := 2) (N := some 19) (v := ?_) (a' := ?_) #[true, true, true, false, false, false, false, false, false, false, false, false, false, false, false, false, false] rfl rfl (by kernel_rfl) (fun _ _ _ h => h) (Or.inl ⟨by rfl, ?_⟩) hHeld ?_ ?_
        rotate_left
        · rintro w' ⟨s0, s1, s2, s3, s4, s5, s6, s7⟩
          go_simp
          try with_reducible rfl
        rotate_left
        · simp only [Act.put, List.setIfInBounds_toArray, List.set_cons_zero, List.set_cons_succ]
          rfl
        refine one_ (i := 3) (N := some 20) #[true, true, true, true, false, false, false, false, false, false, false, false, false, false, false, false, false] rfl rfl (by kernel_rfl) (by decide) (fun K hK => ?_)
        go_simp
        refine (I1.out _ hHeld.1).mono ?_
        rintro e w2 ⟨rfl, hb2⟩
        refine hK.out _ _ (KK.out _ hb2) (fun hHeld => ?_)
        clear hK K
        try simp only [Act.put, List.setIfInBounds_toArray, List.set_cons_zero, List.set_cons_succ]
        refine pure_ (i := 4) (N := some 21) (v := ?_) (a' := ?_) #[true, true, true, true, true, false, false, false, false, false, false, false, false, false, false, false, false] rfl rfl (by kernel_rfl) (fun _ _ _ h => h) (Or.inl ⟨by rfl, ?_⟩) ?_ ?_
        rotate_left
        · intro w'
          go_simp
          try with_reducible rfl
        rotate_left
        · simp only [Act.put, List.setIfInBounds_toArray, List.set_cons_zero, List.set_cons_succ]
          rfl
        refine pure_ (i := 5) (N := some 22) (v := ?_) (a' := ?_) #[true, true, true, true, true, true, false, false, false, false, false, false, false, false, false, false, false] rfl rfl (by kernel_rfl) (fun _ _ _ h => h) (Or.inl ⟨by rfl, ?_⟩) ?_ ?_
        rotate_left
        · intro w'
          go_simp
          try with_reducible rfl
        rotate_left
        · simp only [Act.put, List.setIfInBounds_toArray, List.set_cons_zero, List.set_cons_succ]
          rfl
        refine pure_ (i := 6) (N := some 23) (v := ?_) (a' := ?_) #[true, true, true, true, true, true, true, false, false, false, false, false, false, false, false, false, false] rfl rfl (by kernel_rfl) (fun _ _ _ h => h) (Or.inl ⟨by rfl, ?_⟩) ?_ ?_
        rotate_left
        · intro w'
          go_simp
          try with_reducible rfl
        rotate_left
        · simp only [Act.put, List.setIfInBounds_toArray, List.set_cons_zero, List.set_cons_succ]
          rfl
        refine pure_ (i := 7) (N := some 24) (v := ?_) (a' := ?_) #[true, true, true, true, true, true, true, true, false, false, false, false, false, false, false, false, false] rfl rfl (by kernel_rfl) (fun _ _ _ h => h) (Or.inl ⟨by rfl, ?_⟩) ?_ ?_
        rotate_left
        · intro w'
          go_simp
          try with_reducible rfl
        rotate_left
        · simp only [Act.put, List.setIfInBounds_toArray, List.set_cons_zero, List.set_cons_succ]
          rfl
        refine pure_ (i := 8) (N := some 25) (v := undef) (a' := ?_) #[true, true, true, true, true, true, true, true, true, false, false, false, false, false, false, false, false] rfl rfl (by kernel_rfl) (fun _ _ _ h => h) (Or.inr ⟨by rfl, rfl⟩) ?_ ?_
        rotate_left
        · simp only [Act.put, List.setIfInBounds_toArray, List.set_cons_zero, List.set_cons_succ]
          rfl
        refine pure_ (i := 9) (N := some 26) (v := undef) (a' := ?_) #[true, true, true, true, true, true, true, true, true, true, false, false, false, false, false, false, false] rfl rfl (by kernel_rfl) (fun _ _ _ h => h) (Or.inr ⟨by rfl, rfl⟩) ?_ ?_
        rotate_left
        · simp only [Act.put, List.setIfInBounds_toArray, List.set_cons_zero, List.set_cons_succ]
          rfl
        refine pure_ (i := 10) (N := some 27) (v := undef) (a' := ?_) #[true, true, true, true, true, true, true, true, true, true, true, false, false, false, false, false, false] rfl rfl (by kernel_rfl) (fun _ _ _ h => h) (Or.inr ⟨by rfl, rfl⟩) ?_ ?_
        rotate_left
        · simp only [Act.put, List.setIfInBounds_toArray, List.set_cons_zero, List.set_cons_succ]
          rfl
        refine pure_ (i := 11) (N := some 28) (v := undef) (a' := ?_) #[true, true, true, true, true, true, true, true, true, true, true, true, false, false, false, false, false] rfl rfl (by kernel_rfl) (fun _ _ _ h => h) (Or.inr ⟨by rfl, rfl⟩) ?_ ?_
        rotate_left
        · simp only [Act.put, List.setIfInBounds_toArray, List.set_cons_zero, List.set_cons_succ]
          rfl
        refine pure_ (i := 12) (N := some 29) (v := undef) (a' := ?_) #[true, true, true, true, true, true, true, true, true, true, true, true, true, false, false, false, false] rfl rfl (by kernel_rfl) (fun _ _ _ h => h) (Or.inr ⟨by rfl, rfl⟩) ?_ ?_
        rotate_left
        · simp only [Act.put, List.setIfInBounds_toArray, List.set_cons_zero, List.set_cons_succ]
          rfl
        refine pure_ (i := 13) (N := some 30) (v := undef) (a' := ?_) #[true, true, true, true, true, true, true, true, true, true, true, true, true, true, false, false, false] rfl rfl (by kernel_rfl) (fun _ _ _ h => h) (Or.inr ⟨by rfl, rfl⟩) ?_ ?_
        rotate_left
        · simp only [Act.put, List.setIfInBounds_toArray, List.set_cons_zero, List.set_cons_succ]
          rfl
        refine pure_ (i := 14) (N := some 31) (v := undef) (a' := ?_) #[true, true, true, true, true, true, true, true, true, true, true, true, true, true, true, false, false] rfl rfl (by kernel_rfl) (fun _ _ _ h => h) (Or.inr ⟨by rfl, rfl⟩) ?_ ?_
        rotate_left
        · simp only [Act.put, List.setIfInBounds_toArray, List.set_cons_zero, List.set_cons_succ]
          rfl
        refine pure_ (i := 15) (N := some 32) (v := ?_) (a' := ?_) #[true, true, true, true, true, true, true, true, true, true, true, true, true, true, true, true, false] rfl rfl (by kernel_rfl) (fun _ _ _ h => h) (Or.inl ⟨by rfl, ?_⟩) ?_ ?_
        rotate_left
        · intro w'
          go_simp
          try with_reducible rfl
        rotate_left
        · simp only [Act.put, List.setIfInBounds_toArray, List.set_cons_zero, List.set_cons_succ]
          rfl
        refine pure_ (i := 16) (N := some 33) (v := ?_) (a' := ?_) #[true, true, true, true, true, true, true, true, true, true, true, true, true, true, true, true, true] rfl rfl (by kernel_rfl) (fun _ _ _ h => h) (Or.inl ⟨by rfl, ?_⟩) ?_ ?_
        rotate_left
        · intro w'
          go_simp
          try with_reducible rfl
        rotate_left
        · simp only [Act.put, List.setIfInBounds_toArray, List.set_cons_zero, List.set_cons_succ]
          rfl
        refine done_ (by kernel_rfl) ?_
        go_wp2
        go_roundw
        case rel => exact ⟨k + 1, by go_num, by omega, by rw [HF.out], Lib.hid (Below.next HB1.out hb2)⟩
        case measure => simp [intOf]; omega
      have hbk := hfr.lt (by omega)
      obtain ⟨b, hbe⟩ : ∃ b : Nat, frontTo l ts done p k = b := ⟨_, (Int.toNat_of_nonneg (by omega)).symm⟩
      rw [hbe] at hft hbk ⊢
      simp only [Int.toNat_natCast] at hft
      have hblt : b < ts.length := by omega
      obtain ⟨x', hx', hrb⟩ := HQ.out.at hblt
      cases hx'
      have htb : ts.getD b default = ts[b] := by simp [hblt]
      rw [← htb] at hrb
      have I2b := fun wx hb => I2 wx hb b (ts.getD b default)
      obtain ⟨tb, htbe⟩ : ∃ tb, ts.getD b default = tb := ⟨_, rfl⟩
      rw [htbe] at hft hrb I2b
      clear htb htbe
      have HF : Hid (frontTo l ts done p (k + 1) = if (p = l.length ∧ slt t tb = true) then (k : Int) else (b : Int)) := by
        refine Lib.hid ?_
        by_cases h2 : p = l.length ∧ slt t tb = true
        · rw [if_pos h2, hft.1 ⟨hlv, .inr h2⟩]
        · rw [if_neg h2, hft.2]
          rintro ⟨_, h3⟩
          rcases h3 with h3 | h3
          · omega
          · exact h2 h3
      obtain ⟨s0, s1, s2, s3, s4, s5, s6⟩ := hrb
      have K : ∀ wx, Below W1.heap.size W1 wx → Below W1.heap.size W1 wx ∧ wx.cell? ⟨wr.heap.size, 0, none⟩ = some (.int .i64 (k + 1)) ∧ wx.cell? ⟨wr.heap.size, 1, none⟩ = some (.string t) ∧ wx.cell? ⟨wr.heap.size, 2, none⟩ = some (.string AS) ∧ wx.cell? ⟨wr.heap.size, 3, none⟩ = some (.int .i64 0) ∧ wx.cell? ⟨wr.heap.size, 4, none⟩ = some (.int .i64 1) ∧ wx.cell? ⟨wr.heap.size, 5, none⟩ = some (.int .i64 k) ∧ wx.cell? ⟨wr.heap.size, 6, none⟩ = some (.int .i64 1099511627776) ∧ wx.cell? (x.add (b * 7)) = some (.int .i64 (b + 1)) ∧ wx.cell? ⟨(x.add (b * 7)).block, (x.add (b * 7)).off + 1, none⟩ = some (.string tb) ∧ wx.cell? ⟨(x.add (b * 7)).block, (x.add (b * 7)).off + 2, none⟩ = some (.string AS) ∧ wx.cell? ⟨(x.add (b * 7)).block, (x.add (b * 7)).off + 3, none⟩ = some (.int .i64 0) ∧ wx.cell? ⟨(x.add (b * 7)).block, (x.add (b * 7)).off + 4, none⟩ = some (.int .i64 1) ∧ wx.cell? ⟨(x.add (b * 7)).block, (x.add (b * 7)).off + 5, none⟩ = some (.int .i64 b) ∧ wx.cell? ⟨(x.add (b * 7)).block, (x.add (b * 7)).off + 6, none⟩ = some (.int .i64 1099511627776) := fun wx hb => ⟨hb, below_keep hb c0, below_keep hb c1, below_keep hb c2, below_keep hb c3, below_keep hb c4, below_keep hb c5, below_keep hb c6, below_keep hb s0, below_keep hb s1, below_keep hb s2, below_keep hb s3, below_keep hb s4, below_keep hb s5, below_keep hb s6⟩
      have S0 := K W1.drew (Below.refl _ _).drew
      have KK := Lib.hid K
      have q : decide ((b : Int) < 0) = false := decide_eq_false (by omega)
      have q2 : (0 : Int) ≤ (b : Int) := by omega
      have q3 : (b : Int) < (ts.length : Int) := by omega
      unfold rqVal at I1 I2b
      replace I1 := Lib.hid I1
      replace I2b := Lib.hid I2b
      by_cases hch : p = l.length ∧ slt t tb = true
      · rw [decide_eq_true hch] at I2b
        rw [if_pos hch] at HF
        clear K I2 hfr hft hts hT htk hlv hb1 hbr hs1 c0 c1 c2 c3 c4 c5 c6 hD hL hP hq hx hd hdl hneg s0 s1 s2 s3 s4 s5 s6 hch hbe hbk
        go_wp2
        rw [← hW1]
        clear hW1
        refine start_ (n := 17) (S := (fun wx => Below W1.heap.size W1 wx ∧ wx.cell? ⟨wr.heap.size, 0, none⟩ = some (.int .i64 (k + 1)) ∧ wx.cell? ⟨wr.heap.size, 1, none⟩ = some (.string t) ∧ wx.cell? ⟨wr.heap.size, 2, none⟩ = some (.string AS) ∧ wx.cell? ⟨wr.heap.size, 3, none⟩ = some (.int .i64 0) ∧ wx.cell? ⟨wr.heap.size, 4, none⟩ = some (.int .i64 1) ∧ wx.cell? ⟨wr.heap.size, 5, none⟩ = some (.int .i64 k) ∧ wx.cell? ⟨wr.heap.size, 6, none⟩ = some (.int .i64 1099511627776) ∧ wx.cell? (x.add (b * 7)) = some (.int .i64 (b + 1)) ∧ wx.cell? ⟨(x.add (b * 7)).block, (x.add (b * 7)).off + 1, none⟩ = some (.string tb) ∧ wx.cell? ⟨(x.add (b * 7)).block, (x.add (b * 7)).off + 2, none⟩ = some (.string AS) ∧ wx.cell? ⟨(x.add (b * 7)).block, (x.add (b * 7)).off + 3, none⟩ = some (.int .i64 0) ∧ wx.cell? ⟨(x.add (b * 7)).block, (x.add (b * 7)).off + 4, none⟩ = some (.int .i64 1) ∧ wx.cell? ⟨(x.add (b * 7)).block, (x.add (b * 7)).off + 5, none⟩ = some (.int .i64 b) ∧ wx.cell? ⟨(x.add (b * 7)).block, (x.add (b * 7)).off + 6, none⟩ = some (.int .i64 1099511627776))) (ds := []) #[false, false, false, false, false, false, false, false, false, false, false, false, false, false, false, false, false] (by kernel_rfl) rfl rfl S0 (fun hHeld => ?_)
        refine pure_ (i := 0) (N := some 17) (v := ?_) (a' := ?_) #[true, false, false, false, false, false, false, false, false, false, false, false, false, false, false, false, false] rfl rfl (by kernel_rfl) (fun _ _ _ h => h) (Or.inl ⟨by rfl, ?_⟩) ?_ ?_
        rotate_left
        · intro w'
          go_simp
          try with_reducible rfl
        rotate_left
        · simp only [Act.put, List.setIfInBounds_toArray, List.set_cons_zero, List.set_cons_succ]
          rfl
        refine pure_ (i := 1) (N := some 18) (v := ?_) (a' := ?_) #[true, true, false, false, false, false, false, false, false, false, false, false, false, false, false, false, false] rfl rfl (by kernel_rfl) (fun _ _ _ h => h) (Or.inl ⟨by rfl, ?_⟩) ?_ ?_
        rotate_left
        · intro w'
          go_simp
          try with_reducible rfl
        rotate_left
        · simp only [Act.put, List.setIfInBounds_toArray, List.set_cons_zero, List.set_cons_succ]
          rfl
        refine take_ (i := 2) (N := some 19) (v := ?_) (a' := ?_) #[true, true, true, false, false, false, false, false, false, false, false, false, false, false, false, false, false] rfl rfl (by kernel_rfl) (fun _ _ _ h => h) (Or.inl ⟨by rfl, ?_⟩) hHeld ?_ ?_
        rotate_left
        · rintro w' ⟨s0, s1, s2, s3, s4, s5, s6, s7, s8, s9, s10, s11, s12, s13, s14⟩
          go_simp
          try with_reducible rfl
        rotate_left
        · simp only [Act.put, List.setIfInBounds_toArray, List.set_cons_zero, List.set_cons_succ]
          rfl
        refine one_ (i := 3) (N := some 20) #[true, true, true, true, false, false, false, false, false, false, false, false, false, false, false, false, false] rfl rfl (by kernel_rfl) (by decide) (fun K hK => ?_)
        go_simp
        refine (I1.out _ hHeld.1).mono ?_
        rintro e w2 ⟨rfl, hb2⟩
        refine hK.out _ _ (KK.out _ hb2) (fun hHeld => ?_)
        clear hK K
        try simp only [Act.put, List.setIfInBounds_toArray, List.set_cons_zero, List.set_cons_succ]
        refine pure_ (i := 4) (N := some 21) (v := ?_) (a' := ?_) #[true, true, true, true, true, false, false, false, false, false, false, false, false, false, false, false, false] rfl rfl (by kernel_rfl) (fun _ _ _ h => h) (Or.inl ⟨by rfl, ?_⟩) ?_ ?_
        rotate_left
        · intro w'
          go_simp
          try with_reducible rfl
        rotate_left
        · simp only [Act.put, List.setIfInBounds_toArray, List.set_cons_zero, List.set_cons_succ]
          rfl
        refine pure_ (i := 5) (N := some 22) (v := ?_) (a' := ?_) #[true, true, true, true, true, true, false, false, false, false, false, false, false, false, false, false, false] rfl rfl (by kernel_rfl) (fun _ _ _ h => h) (Or.inl ⟨by rfl, ?_⟩) ?_ ?_
        rotate_left
        · intro w'
          go_simp
          try with_reducible rfl
        rotate_left
        · simp only [Act.put, List.setIfInBounds_toArray, List.set_cons_zero, List.set_cons_succ]
          rfl
        refine pure_ (i := 6) (N := some 23) (v := ?_) (a' := ?_) #[true, true, true, true, true, true, true, false, false, false, false, false, false, false, false, false, false] rfl rfl (by kernel_rfl) (fun _ _ _ h => h) (Or.inl ⟨by rfl, ?_⟩) ?_ ?_
        rotate_left
        · intro w'
          go_simp
          try with_reducible rfl
        rotate_left
        · simp only [Act.put, List.setIfInBounds_toArray, List.set_cons_zero, List.set_cons_succ]
          rfl
        refine pure_ (i := 7) (N := some 24) (v := ?_) (a' := ?_) #[true, true, true, true, true, true, true, true, false, false, false, false, false, false, false, false, false] rfl rfl (by kernel_rfl) (fun _ _ _ h => h) (Or.inl ⟨by rfl, ?_⟩) ?_ ?_
        rotate_left
        · intro w'
          go_simp
          try with_reducible rfl
        rotate_left
        · simp only [Act.put, List.setIfInBounds_toArray, List.set_cons_zero, List.set_cons_succ]
          rfl
        refine pure_ (i := 8) (N := some 25) (v := ?_) (a' := ?_) #[true, true, true, true, true, true, true, true, true, false, false, false, false, false, false, false, false] rfl rfl (by kernel_rfl) (fun _ _ _ h => h) (Or.inl ⟨by rfl, ?_⟩) ?_ ?_
        rotate_left
        · intro w'
          go_simp
          try with_reducible rfl
        rotate_left
        · simp only [Act.put, List.setIfInBounds_toArray, List.set_cons_zero, List.set_cons_succ]
          rfl
        refine take_ (i := 9) (N := some 26) (v := ?_) (a' := ?_) #[true, true, true, true, true, true, true, true, true, true, false, false, false, false, false, false, false] rfl rfl (by kernel_rfl) (fun _ _ _ h => h) (Or.inl ⟨by rfl, ?_⟩) hHeld ?_ ?_
        rotate_left
        · rintro w' ⟨s0, s1, s2, s3, s4, s5, s6, s7, s8, s9, s10, s11, s12, s13, s14⟩
          go_simp
          try with_reducible rfl
        rotate_left
        · simp only [Act.put, List.setIfInBounds_toArray, List.set_cons_zero, List.set_cons_succ]
          rfl
        refine pure_ (i := 10) (N := some 27) (v := ?_) (a' := ?_) #[true, true, true, true, true, true, true, true, true, true, true, false, false, false, false, false, false] rfl rfl (by kernel_rfl) (fun _ _ _ h => h) (Or.inl ⟨by rfl, ?_⟩) ?_ ?_
        rotate_left
        · intro w'
          go_simp
          try with_reducible rfl
        rotate_left
        · simp only [Act.put, List.setIfInBounds_toArray, List.set_cons_zero, List.set_cons_succ]
          rfl
        refine pure_ (i := 11) (N := some 28) (v := ?_) (a' := ?_) #[true, true, true, true, true, true, true, true, true, true, true, true, false, false, false, false, false] rfl rfl (by kernel_rfl) (fun _ _ _ h => h) (Or.inl ⟨by rfl, ?_⟩) ?_ ?_
        rotate_left
        · intro w'
          go_simp
          try with_reducible rfl
        rotate_left
        · simp only [Act.put, List.setIfInBounds_toArray, List.set_cons_zero, List.set_cons_succ]
          rfl
        refine pure_ (i := 12) (N := some 29) (v := ?_) (a' := ?_) #[true, true, true, true, true, true, true, true, true, true, true, true, true, false, false, false, false] rfl rfl (by kernel_rfl) (fun _ _ _ h => h) (Or.inl ⟨by rfl, ?_⟩) ?_ ?_
        rotate_left
        · intro w'
          go_simp
          try with_reducible rfl
        rotate_left
        · simp only [Act.put, List.setIfInBounds_toArray, List.set_cons_zero, List.set_cons_succ]
          rfl
        refine take_ (i := 13) (N := some 30) (v := ?_) (a' := ?_) #[true, true, true, true, true, true, true, true, true, true, true, true, true, true, false, false, false] rfl rfl (by kernel_rfl) (fun _ _ _ h => h) (Or.inl ⟨by rfl, ?_⟩) hHeld ?_ ?_
        rotate_left
        · rintro w' ⟨s0, s1, s2, s3, s4, s5, s6, s7, s8, s9, s10, s11, s12, s13, s14⟩
          go_simp
          try with_reducible rfl
        rotate_left
        · simp only [Act.put, List.setIfInBounds_toArray, List.set_cons_zero, List.set_cons_succ]
          rfl
        refine one_ (i := 14) (N := some 31) #[true, true, true, true, true, true, true, true, true, true, true, true, true, true, true, false, false] rfl rfl (by kernel_rfl) (by decide) (fun K hK => ?_)
        go_simp
        refine (I2b.out _ hHeld.1).mono ?_
        rintro e w3 ⟨rfl, hb3⟩
        refine hK.out _ _ (KK.out _ hb3) (fun hHeld => ?_)
        clear hK K
        try simp only [Act.put, List.setIfInBounds_toArray, List.set_cons_zero, List.set_cons_succ]
        refine pure_ (i := 15) (N := some 32) (v := ?_) (a' := ?_) #[true, true, true, true, true, true, true, true, true, true, true, true, true, true, true, true, false] rfl rfl (by kernel_rfl) (fun _ _ _ h => h) (Or.inl ⟨by rfl, ?_⟩) ?_ ?_
        rotate_left
        · intro w'
          go_simp
          try with_reducible rfl
        rotate_left
        · simp only [Act.put, List.setIfInBounds_toArray, List.set_cons_zero, List.set_cons_succ]
          rfl
        refine pure_ (i := 16) (N := some 33) (v := ?_) (a' := ?_) #[true, true, true, true, true, true, true, true, true, true, true, true, true, true, true, true, true] rfl rfl (by kernel_rfl) (fun _ _ _ h => h) (Or.inl ⟨by rfl, ?_⟩) ?_ ?_
        rotate_left
        · intro w'
          go_simp
          try with_reducible rfl
        rotate_left
        · simp only [Act.put, List.setIfInBounds_toArray, List.set_cons_zero, List.set_cons_succ]
          rfl
        refine done_ (by kernel_rfl) ?_
        go_wp2
        go_roundw
        case rel => exact ⟨k + 1, by go_num, by omega, by rw [HF.out], Lib.hid (Below.next HB1.out hb3)⟩
        case measure => simp [intOf]; omega
      · rw [decide_eq_false hch] at I2b
        rw [if_neg hch] at HF
        clear K I2 hfr hft hts hT htk hlv hb1 hbr hs1 c0 c1 c2 c3 c4 c5 c6 hD hL hP hq hx hd hdl hneg s0 s1 s2 s3 s4 s5 s6 hch hbe hbk
        go_wp2
        rw [← hW1]
        clear hW1
        refine start_ (n := 17) (S := (fun wx => Below W1.heap.size W1 wx ∧ wx.cell? ⟨wr.heap.size, 0, none⟩ = some (.int .i64 (k + 1)) ∧ wx.cell? ⟨wr.heap.size, 1, none⟩ = some (.string t) ∧ wx.cell? ⟨wr.heap.size, 2, none⟩ = some (.string AS) ∧ wx.cell? ⟨wr.heap.size, 3, none⟩ = some (.int .i64 0) ∧ wx.cell? ⟨wr.heap.size, 4, none⟩ = some (.int .i64 1) ∧ wx.cell? ⟨wr.heap.size, 5, none⟩ = some (.int .i64 k) ∧ wx.cell? ⟨wr.heap.size, 6, none⟩ = some (.int .i64 1099511627776) ∧ wx.cell? (x.add (b * 7)) = some (.int .i64 (b + 1)) ∧ wx.cell? ⟨(x.add (b * 7)).block, (x.add (b * 7)).off + 1, none⟩ = some (.string tb) ∧ wx.cell? ⟨(x.add (b * 7)).block, (x.add (b * 7)).off + 2, none⟩ = some (.string AS) ∧ wx.cell? ⟨(x.add (b * 7)).block, (x.add (b * 7)).off + 3, none⟩ = some (.int .i64 0) ∧ wx.cell? ⟨(x.add (b * 7)).block, (x.add (b * 7)).off + 4, none⟩ = some (.int .i64 1) ∧ wx.cell? ⟨(x.add (b * 7)).block, (x.add (b * 7)).off + 5, none⟩ = some (.int .i64 b) ∧ wx.cell? ⟨(x.add (b * 7)).block, (x.add (b * 7)).off + 6, none⟩ = some (.int .i64 1099511627776))) (ds := []) #[false, false, false, false, false, false, false, false, false, false, false, false, false, false, false, false, false] (by kernel_rfl) rfl rfl S0 (fun hHeld => ?_)
        refine pure_ (i := 0) (N := some 17) (v := ?_) (a' := ?_) #[true, false, false, false, false, false, false, false, false, false, false, false, false, false, false, false, false] rfl rfl (by kernel_rfl) (fun _ _ _ h => h) (Or.inl ⟨by rfl, ?_⟩) ?_ ?_
        rotate_left
        · intro w'
          go_simp
          try with_reducible rfl
        rotate_left
        · simp only [Act.put, List.setIfInBounds_toArray, List.set_cons_zero, List.set_cons_succ]
          rfl
        refine pure_ (i := 1) (N := some 18) (v := ?_) (a' := ?_) #[true, true, false, false, false, false, false, false, false, false, false, false, false, false, false, false, false] rfl rfl (by kernel_rfl) (fun _ _ _ h => h) (Or.inl ⟨by rfl, ?_⟩) ?_ ?_
        rotate_left
        · intro w'
          go_simp
          try with_reducible rfl
        rotate_left
        · simp only [Act.put, List.setIfInBounds_toArray, List.set_cons_zero, List.set_cons_succ]
          rfl
        refine take_ (i := 2) (N := some 19) (v := ?_) (a' := ?_) #[true, true, true, false, false, false, false, false, false, false, false, false, false, false, false, false, false] rfl rfl (by kernel_rfl) (fun _ _ _ h => h) (Or.inl ⟨by rfl, ?_⟩) hHeld ?_ ?_
        rotate_left
        · rintro w' ⟨s0, s1, s2, s3, s4, s5, s6, s7, s8, s9, s10, s11, s12, s13, s14⟩
          go_simp
          try with_reducible rfl
        rotate_left
        · simp only [Act.put, List.setIfInBounds_toArray, List.set_cons_zero, List.set_cons_succ]
          rfl
        refine one_ (i := 3) (N := some 20) #[true, true, true, true, false, false, false, false, false, false, false, false, false, false, false, false, false] rfl rfl (by kernel_rfl) (by decide) (fun K hK => ?_)
        go_simp
        refine (I1.out _ hHeld.1).mono ?_
        rintro e w2 ⟨rfl, hb2⟩
        refine hK.out _ _ (KK.out _ hb2) (fun hHeld => ?_)
        clear hK K
        try simp only [Act.put, List.setIfInBounds_toArray, List.set_cons_zero, List.set_cons_succ]
        refine pure_ (i := 4) (N := some 21) (v := ?_) (a' := ?_) #[true, true, true, true, true, false, false, false, false, false, false, false, false, false, false, false, false] rfl rfl (by kernel_rfl) (fun _ _ _ h => h) (Or.inl ⟨by rfl, ?_⟩) ?_ ?_
        rotate_left
        · intro w'
          go_simp
          try with_reducible rfl
        rotate_left
        · simp only [Act.put, List.setIfInBounds_toArray, List.set_cons_zero, List.set_cons_succ]
          rfl
        refine pure_ (i := 5) (N := some 22) (v := ?_) (a' := ?_) #[true, true, true, true, true, true, false, false, false, false, false, false, false, false, false, false, false] rfl rfl (by kernel_rfl) (fun _ _ _ h => h) (Or.inl ⟨by rfl, ?_⟩) ?_ ?_
        rotate_left
        · intro w'
          go_simp
          try with_reducible rfl
        rotate_left
        · simp only [Act.put, List.setIfInBounds_toArray, List.set_cons_zero, List.set_cons_succ]
          rfl
        refine pure_ (i := 6) (N := some 23) (v := ?_) (a' := ?_) #[true, true, true, true, true, true, true, false, false, false, false, false, false, false, false, false, false] rfl rfl (by kernel_rfl) (fun _ _ _ h => h) (Or.inl ⟨by rfl, ?_⟩) ?_ ?_
        rotate_left
        · intro w'
          go_simp
          try with_reducible rfl
        rotate_left
        · simp only [Act.put, List.setIfInBounds_toArray, List.set_cons_zero, List.set_cons_succ]
          rfl
        refine pure_ (i := 7) (N := some 24) (v := ?_) (a' := ?_) #[true, true, true, true, true, true, true, true, false, false, false, false, false, false, false, false, false] rfl rfl (by kernel_rfl) (fun _ _ _ h => h) (Or.inl ⟨by rfl, ?_⟩) ?_ ?_
        rotate_left
        · intro w'
          go_simp
          try with_reducible rfl
        rotate_left
        · simp only [Act.put, List.setIfInBounds_toArray, List.set_cons_zero, List.set_cons_succ]
          rfl
        refine pure_ (i := 8) (N := some 25) (v := ?_) (a' := ?_) #[true, true, true, true, true, true, true, true, true, false, false, false, false, false, false, false, false] rfl rfl (by kernel_rfl) (fun _ _ _ h => h) (Or.inl ⟨by rfl, ?_⟩) ?_ ?_
        rotate_left
        · intro w'
          go_simp
          try with_reducible rfl
        rotate_left
        · simp only [Act.put, List.setIfInBounds_toArray, List.set_cons_zero, List.set_cons_succ]
          rfl
        refine take_ (i := 9) (N := some 26) (v := ?_) (a' := ?_) #[true, true, true, true, true, true, true, true, true, true, false, false, false, false, false, false, false] rfl rfl (by kernel_rfl) (fun _ _ _ h => h) (Or.inl ⟨by rfl, ?_⟩) hHeld ?_ ?_
        rotate_left
        · rintro w' ⟨s0, s1, s2, s3, s4, s5, s6, s7, s8, s9, s10, s11, s12, s13, s14⟩
          go_simp
          try with_reducible rfl
        rotate_left
        · simp only [Act.put, List.setIfInBounds_toArray, List.set_cons_zero, List.set_cons_succ]
          rfl
        refine pure_ (i := 10) (N := some 27) (v := ?_) (a' := ?_) #[true, true, true, true, true, true, true, true, true, true, true, false, false, false, false, false, false] rfl rfl (by kernel_rfl) (fun _ _ _ h => h) (Or.inl ⟨by rfl, ?_⟩) ?_ ?_
        rotate_left
        · intro w'
          go_simp
          try with_reducible rfl
        rotate_left
        · simp only [Act.put, List.setIfInBounds_toArray, List.set_cons_zero, List.set_cons_succ]
          rfl
        refine pure_ (i := 11) (N := some 28) (v := ?_) (a' := ?_) #[true, true, true, true, true, true, true, true, true, true, true, true, false, false, false, false, false] rfl rfl (by kernel_rfl) (fun _ _ _ h => h) (Or.inl ⟨by rfl, ?_⟩) ?_ ?_
        rotate_left
        · intro w'
          go_simp
          try with_reducible rfl
        rotate_left
        · simp only [Act.put, List.setIfInBounds_toArray, List.set_cons_zero, List.set_cons_succ]
          rfl
        refine pure_ (i := 12) (N := some 29) (v := ?_) (a' := ?_) #[true, true, true, true, true, true, true, true, true, true, true, true, true, false, false, false, false] rfl rfl (by kernel_rfl) (fun _ _ _ h => h) (Or.inl ⟨by rfl, ?_⟩) ?_ ?_
        rotate_left
        · intro w'
          go_simp
          try with_reducible rfl
        rotate_left
        · simp only [Act.put, List.setIfInBounds_toArray, List.set_cons_zero, List.set_cons_succ]
          rfl
        refine take_ (i := 13) (N := some 30) (v := ?_) (a' := ?_) #[true, true, true, true, true, true, true, true, true, true, true, true, true, true, false, false, false] rfl rfl (by kernel_rfl) (fun _ _ _ h => h) (Or.inl ⟨by rfl, ?_⟩) hHeld ?_ ?_
        rotate_left
        · rintro w' ⟨s0, s1, s2, s3, s4, s5, s6, s7, s8, s9, s10, s11, s12, s13, s14⟩
          go_simp
          try with_reducible rfl
        rotate_left
        · simp only [Act.put, List.setIfInBounds_toArray, List.set_cons_zero, List.set_cons_succ]
          rfl
        refine one_ (i := 14) (N := some 31) #[true, true, true, true, true, true, true, true, true, true, true, true, true, true, true, false, false] rfl rfl (by kernel_rfl) (by decide) (fun K hK => ?_)
        go_simp
        refine (I2b.out _ hHeld.1).mono ?_
        rintro e w3 ⟨rfl, hb3⟩
        refine hK.out _ _ (KK.out _ hb3) (fun hHeld => ?_)
        clear hK K
        try simp only [Act.put, List.setIfInBounds_toArray, List.set_cons_zero, List.set_cons_succ]
        refine pure_ (i := 15) (N := some 32) (v := ?_) (a' := ?_) #[true, true, true, true, true, true, true, true, true, true, true, true, true, true, true, true, false] rfl rfl (by kernel_rfl) (fun _ _ _ h => h) (Or.inl ⟨by rfl, ?_⟩) ?_ ?_
        rotate_left
        · intro w'
          go_simp
          try with_reducible rfl
        rotate_left
        · simp only [Act.put, List.setIfInBounds_toArray, List.set_cons_zero, List.set_cons_succ]
          rfl
        refine pure_ (i := 16) (N := some 33) (v := ?_) (a' := ?_) #[true, true, true, true, true, true, true, true, true, true, true, true, true, true, true, true, true] rfl rfl (by kernel_rfl) (fun _ _ _ h => h) (Or.inl ⟨by rfl, ?_⟩) ?_ ?_
        rotate_left
        · intro w'
          go_simp
          try with_reducible rfl
        rotate_left
        · simp only [Act.put, List.setIfInBounds_toArray, List.set_cons_zero, List.set_cons_succ]
          rfl
        refine done_ (by kernel_rfl) ?_
        go_wp2
        go_roundw
        case rel => exact ⟨k + 1, by go_num, by omega, by rw [HF.out], Lib.hid (Below.next HB1.out hb3)⟩
        case measure => simp [intOf]; omega
    · have HV : Hid (frontOf l ts done p = frontTo l ts done p k) := Lib.hid (by rw [show k = ts.length from by omega]; rfl)
      generalize frontTo l ts done p k = best at *
      go_wp2
      go_ret
      exact ⟨by rw [HV.out]; rfl, HW.out⟩
end Go.Proofs.Ytdfnpknekjgkiaa
