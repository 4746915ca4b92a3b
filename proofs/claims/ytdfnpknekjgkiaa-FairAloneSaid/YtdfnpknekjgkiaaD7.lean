/- serve: whole. -/
import Derived.Test.YtdfnpknekjgkiaaD6
import Derived.StillTailTactics
import Derived.BigQuiet
import Derived.Test.YtdfnpknekjgkiaaWLast
namespace Go.Proofs.Ytdfnpknekjgkiaa
open Go.RowKit
open Go.Proofs.YtdfnpknekjgkiaaW.PrintLast
set_option linter.unusedVariables false
set_option linter.unusedSimpArgs false

set_option maxRecDepth 100000 in
set_option maxHeartbeats 8000000 in
theorem serve_any (l : Shares) (ts : List ByteArray) (cs : List Int) (Q : Int) (done : List Bool) (s0 : St) (w : World) (ac aq ad al acs : Option Addr) (cc0 cq cd cl ccs : Nat)
    (g : Good l ts cs Q) (hin : (cfgOf l cs Q).In s0) (hcr : Ints .i64 w ac s0.2) (hq : Rqs w aq ts) (hx : Shs w al l) (hcs : Ints .i64 w acs cs) (hd : Vals w ad (done.map Value.bool)) (hdl : done.length = ts.length) (hc : l.length ≤ cl) (hl : l.length ≤ 64) (hcd : done.length ≤ cd) (hcq : ts.length ≤ cq) (htl : ts.length ≤ 64) (hccs : cs.length ≤ ccs) (hcc0 : s0.2.length ≤ cc0) (hcn : ac = none → cc0 = 0) (hund : ∃ j, done.getD j true = false) :
    Calls Try.prog 27 #[.agg #[.int .i64 s0.1, .slice ac s0.2.length cc0], .slice al l.length cl, .slice aq ts.length cq, .slice acs cs.length ccs, .slice ad done.length cd, .int .i64 Q] w fun e w' => ∃ (r : St × Nat) (g c : Nat), r = (cfgOf l cs Q).go (frontsOf l ts done) s0 ∧ e = .returned (.tuple #[.agg #[.int .i64 r.1.1, .slice (some ⟨g, 0, none⟩) r.1.2.length c], .int .i64 r.2]) ∧ RowI w' w.heap.size g c r.1.2 ∧ Below w.heap.size w w' := by
  have ok := hund.elim fun j hj => cfg_ok g hdl hj
  replace hdl := Lib.hid hdl
  go_enter Try.func27, Try.ntmps27
  go_wp2
  refine wp_scope_first 0 (fun n a' wr => ∃ (s : St) (gc cc gf cf : Nat), a'.tmps.toList.length = 107 ∧ a'.tmps.toList.take 15 = [.agg #[.int .i64 s0.1, .slice ac s0.2.length cc0], .slice al l.length cl, .slice aq ts.length cq, .slice acs cs.length ccs, .slice ad done.length cd, .int .i64 Q, .pointer (some ⟨w.heap.size, 0, none⟩), undef, undef, undef, undef, undef, .pointer (some ⟨w.heap.size + 1, 0, none⟩), .int .i64 0, .slice (some ⟨gf, 0, none⟩) (l.length + 1) cf] ∧ a'.defers = [] ∧ SvM w s.1 s.2 (frontsOf l ts done) gc cc gf cf wr ∧ (cfgOf l cs Q).In s ∧ (cfgOf l cs Q).meas (frontsOf l ts done) s = n ∧ (cfgOf l cs Q).go (frontsOf l ts done) s = (cfgOf l cs Q).go (frontsOf l ts done) s0) rfl ?pass ?first
  case first =>
    intro G
    replace G := Lib.hid G
    have hmk : ∀ W : World, (Instr.makeSlice 27 (.int .i64 ((l.length : Int) + 1)) (.int .i64 ((l.length : Int) + 1))).run Try.prog W = .ok (.slice (some ⟨W.heap.size, 0, none⟩) (l.length + 1) (l.length + 1)) (W.alloc (.cells (madeCells #[.int .i64 0] (l.length + 1)) 3)) := fun W => by
      have := (make_ints W 0 (l.length + 1) (by omega) (Nat.zero_le _)).1
      rw [show ((l.length + 1 : Nat) : Int) = (l.length : Int) + 1 from by omega, Nat.mul_one] at this
      exact this
    have hslen : s0.2.length = l.length + 1 := hin.len
    obtain ⟨W1, hW1⟩ : ∃ W1, W1 = (w.alloc (.cells #[.int .i64 s0.1, .slice ac s0.2.length cc0] 31)).alloc (.cells #[.int .i64 0, .slice none 0 0] 31) := ⟨_, rfl⟩
    have hb1 : Below w.heap.size w W1 := by rw [hW1]; exact below_alloc (below_alloc (Below.refl _ _) _) _
    have B6 : Blk W1 w.heap.size 31 #[.int .i64 s0.1, .slice ac s0.2.length cc0] := by rw [hW1]; exact (Blk.new w 31 _).alloc _
    have B12 : Blk W1 (w.heap.size + 1) 31 #[.int .i64 0, .slice none 0 0] := by
      have := Blk.new (w.alloc (.cells #[.int .i64 s0.1, .slice ac s0.2.length cc0] 31)) 31 #[.int .i64 0, .slice none 0 0]
      simp only [World.size_alloc] at this; rw [hW1]; exact this
    have hsz : W1.heap.size = w.heap.size + 2 := by rw [hW1]; simp
    have CL := Lib.hid (clone_any s0.2 ac cc0 W1 (hcr.below hb1) hcc0 hcn (by omega))
    rw [← hW1]
    have e1 : W1.cell? ⟨w.heap.size, 1, none⟩ = some (.slice ac s0.2.length cc0) := B6.cell 1
    have HBB := Lib.hid (And.intro B6 (And.intro B12 (And.intro hb1 hsz)))
    have HS := Lib.hid hslen
    clear hW1 B6 B12 hb1 hsz hslen
    go_wp2_with fail
    refine CL.out.mono ?_
    rintro e w1 ⟨v, rfl, hown, hbw⟩
    obtain ⟨B6, B12, hb1, hsz⟩ := HBB.out
    obtain ⟨gc, cc, rfl, hrow⟩ := row_of_own hown (by intro h; have := HS.out; rw [h] at this; simp at this)
    replace hrow : RowI w1 W1.heap.size gc cc s0.2 := hrow
    have b6 := B6.below hbw
    have hf := fun j => b6.free j
    have hc1 : w1.cell? ⟨w.heap.size, 1, none⟩ = some (.slice ac s0.2.length cc0) := b6.cell 1
    have HM : Hid (∀ W2, W2 = (w1.setCell ⟨w.heap.size, 1, none⟩ (.slice (some ⟨gc, 0, none⟩) s0.2.length cc)).alloc (.cells (madeCells #[.int .i64 0] (l.length + 1)) 3) → SvM w s0.1 s0.2 (frTo l ts done 0) gc cc w1.heap.size (l.length + 1) W2) := by
      refine Lib.hid ?_
      rintro W2 rfl
      have hlt := hrow.lt
      have hs1 := hbw.size
      have hm := (make_ints (w1.setCell ⟨w.heap.size, 1, none⟩ (.slice (some ⟨gc, 0, none⟩) s0.2.length cc)) (w.heap.size + 2) (l.length + 1) (by omega) (by rw [size_setCell]; omega)).2
      rw [size_setCell, Nat.mul_one] at hm
      refine ⟨(b6.set 1 _).alloc _, ((B12.below hbw).other 1 (by omega) _).alloc _, ?_, by rw [frTo_zero]; exact hm, by omega, below_alloc ((Below.next hb1 hbw).setCell (Nat.le_refl _) _) _⟩
      exact ((hrow.mono (by omega)).other 1 (by omega) _).below (below_alloc (Below.refl _ _) _)
    have hss : w1.heap.size = w1.heap.size := rfl
    clear hown hrow hbw B6 B12 b6 hb1 hsz CL e1
    go_wp2
    obtain ⟨W2, hW2⟩ : ∃ W2, W2 = (w1.setCell ⟨w.heap.size, 1, none⟩ (.slice (some ⟨gc, 0, none⟩) s0.2.length cc)).alloc (.cells (madeCells #[.int .i64 0] (l.length + 1)) 3) := ⟨_, rfl⟩
    have M := HM.out W2 hW2
    rw [← hW2]
    generalize w1.heap.size = gf at *
    clear hW2 HM hss hc1 hf HBB hmk hund
    go_loopw [27] (fun i wr => ∃ k : Nat, i = .int .i64 k ∧ k ≤ l.length + 1 ∧ Hid (SvM w s0.1 s0.2 (frTo l ts done k) gc cc gf (l.length + 1) wr)) (fun i _ => l.length + 1 - (intOf i).toNat)
    case atStart => exact ⟨0, rfl, by omega, Lib.hid M⟩
    case round =>
      obtain ⟨k, rfl, hk, HM⟩ := hrel
      by_cases h : k < l.length + 1
      · have hlow := HM.out.low
        have FR := Lib.hid (front_any l ts done wr aq ad al cq cd cl k (hq.below hlow) (hx.below hlow) (hd.below hlow) hdl.out hc (by omega) hcd hcq (by omega) (by omega))
        have q0 : (0 : Int) ≤ (k : Int) := by omega
        have q1 : (k : Int) < (l.length : Int) + 1 := by omega
        have q2 : decide ((k : Int) < (l.length : Int) + 1) = true := decide_eq_true q1
        clear hlow
        go_wp2_with fail
        refine FR.out.mono ?_
        rintro e w3 ⟨rfl, hb3⟩
        have M3 := HM.out.below hb3
        have f1 := M3.fr.free k
        have f2 := M3.fr.at (j := k) (by rw [frTo_len]; exact h) 0
        have HM3 := Lib.hid (M3.setFr k (frontOf l ts done k))
        have HF := Lib.hid (frTo_succ l ts done k)
        generalize frontOf l ts done k = fk at *
        clear M3 hb3 FR
        go_wp2
        go_roundw
        case rel => exact ⟨k + 1, by go_num, by omega, by rw [← HF.out]; exact HM3⟩
        case measure => simp [intOf]; omega
      · have q2 : decide ((k : Int) < (l.length : Int) + 1) = false := decide_eq_false (by omega)
        have HE : Hid (frTo l ts done k = frontsOf l ts done) := Lib.hid (by rw [show k = l.length + 1 from by omega]; exact frTo_all l ts done)
        go_wp2
        go_step3
        have M2 := HM.out
        rw [HE.out] at M2
        go_step
        go_step
        refine G.out ((cfgOf l cs Q).meas (frontsOf l ts done) s0) _ _ ?_
        exact ⟨s0, gc, cc, gf, l.length + 1, by rfl, by rfl, by rfl, M2, hin, rfl, rfl⟩
  case pass =>
    rintro n ⟨⟨tl⟩, df⟩ wr ⟨s, gc, cc, gf, cf, hlen, htk, hdf, M, hs, hn, hgo⟩
    obtain ⟨u, rfl⟩ := frame_open hlen htk
    clear hlen htk
    dsimp only at hdf
    subst hdf
    have hsl : s.2.length = l.length + 1 := hs.len
    have hst : s.1 ≤ l.length := hs.turn
    have hfl := frontsOf_len l ts done
    obtain ⟨c1, c2, c3, c4, z1, z2, z3, z4, y1, y2, y3, y4⟩ := M.facts (by omega) (by omega)
    have ht0 : (0 : Int) ≤ (s.1 : Int) := by omega
    have ht1 : (s.1 : Int) < (s.2.length : Int) := by omega
    have ht2 : (s.1 : Int) < (l.length : Int) + 1 := by omega
    have hst0 : (cfgOf l cs Q).stops (frontsOf l ts done) s ↔ 0 ≤ (frontsOf l ts done).getD s.1 (-1) ∧ cs.getD ((frontsOf l ts done).getD s.1 (-1)).toNat 0 ≤ s.2.getD s.1 0 := Iff.rfl
    have hlow := M.low
    have hgg := M.ne
    have hfr := frontOf_is l ts done s.1
    have hs6 := M.b6.lt
    have hfa := frontsOf_at l ts done hst
    rw [hfa] at c4 hst0
    replace hn := Lib.hid hn
    replace hgo := Lib.hid hgo
    replace hsl := Lib.hid hsl
    replace hfl := Lib.hid hfl
    have HM := Lib.hid M
    clear M
    by_cases hstp : (cfgOf l cs Q).stops (frontsOf l ts done) s
    case pos =>
      have hgo2 := Lib.hid ((Cfg.go_stops hstp).symm.trans hgo.out)
      obtain ⟨hf0, hco⟩ := hst0.1 hstp
      have hfl2 := hfr.lt hf0
      obtain ⟨i, hi⟩ : ∃ i : Nat, frontOf l ts done s.1 = i := ⟨_, (Int.toNat_of_nonneg hf0).symm⟩
      have HT : Hid ((cfgOf l cs Q).took (frontsOf l ts done) s = ((s.1, s.2.set s.1 (s.2.getD s.1 0 - cs.getD i 0)), i)) := by
        refine Lib.hid ?_
        unfold Cfg.took
        rw [hfa, hi]
        rfl
      rw [hi] at c4 hco hfl2
      simp only [Int.toNat_natCast] at hco
      have hilt : i < cs.length := by have := g.len; omega
      obtain ⟨xc, rfl, hcc⟩ := (hcs.below hlow).at hilt
      have hcost : 0 ≤ cs.getD i 0 ∧ cs.getD i 0 ≤ 1000000 := ok.cost i
      have hcp := hs.pos s.1
      have hch := hs.here
      have q1 : decide ((i : Int) ≥ 0) = true := decide_eq_true (by omega)
      have q2 : decide (cs.getD i 0 ≤ s.2.getD s.1 0) = true := decide_eq_true hco
      have q3 : (0 : Int) ≤ (i : Int) := by omega
      have q4 : (i : Int) < (cs.length : Int) := by omega
      obtain ⟨C, hC⟩ : ∃ C, cs.getD i 0 = C := ⟨_, rfl⟩
      obtain ⟨D, hD⟩ : ∃ D, s.2.getD s.1 0 = D := ⟨_, rfl⟩
      rw [hC] at hco hcost hcc q2 HT
      rw [hD] at hco hcp hch q2 HT c3
      have m1 : IntKind.i64.wrap (D - C) = D - C := IntWalk.i64_in _ (by omega)
      have KK : Hid (∀ wx, Below wr.heap.size wr wx → Below wr.heap.size wr wx ∧ wx.cell? ⟨w.heap.size, 0, none⟩ = some (.int .i64 s.1) ∧ wx.cell? ⟨w.heap.size, 1, none⟩ = some (.slice (some ⟨gc, 0, none⟩) s.2.length cc) ∧ wx.cell? ⟨gc, s.1, none⟩ = some (.int .i64 D) ∧ wx.cell? (xc.add i) = some (.int .i64 C) ∧ (∀ j, wx.frozen? ⟨gc, j, none⟩ = false)) := Lib.hid fun wx hb => ⟨hb, below_keep hb c1, below_keep hb c2, below_keep hb c3, below_keep hb hcc, fun j => (HM.out.below hb).cr.free j⟩
      clear hst0 hfr hf0 hstp hfa hlow hs6 hfl2 hilt hcost hcp hch hco hi hcr hcs hq hx hd hC hD ok g
      go_wp2
      go_quiet (fail)
      go_wp2
      obtain ⟨W2, hW2⟩ : ∃ W2, W2 = wr.drewN nq := ⟨_, rfl⟩
      have hb2 : Below wr.heap.size wr W2 := by rw [hW2]; exact below_drewN (Below.refl _ _) _
      have M2 := Lib.hid (HM.out.below hb2)
      have S0 := KK.out W2.drew hb2.drew
      rw [← hW2]
      have HW := Lib.hid hW2
      clear hW2 c1 c2 c3 c4 z1 z2 z3 z4 hcc
      refine start_ (n := 13) (S := (fun wx => Below wr.heap.size wr wx ∧ wx.cell? ⟨w.heap.size, 0, none⟩ = some (.int .i64 s.1) ∧ wx.cell? ⟨w.heap.size, 1, none⟩ = some (.slice (some ⟨gc, 0, none⟩) s.2.length cc) ∧ wx.cell? ⟨gc, s.1, none⟩ = some (.int .i64 D) ∧ wx.cell? (xc.add i) = some (.int .i64 C) ∧ (∀ j, wx.frozen? ⟨gc, j, none⟩ = false))) (ds := [12]) #[false, false, false, false, false, false, false, false, false, false, false, false, false] (by kernel_rfl) rfl rfl S0 (fun hHeld => ?_)
      refine pure_ (i := 0) (N := some 59) (v := ?_) (a' := ?_) #[true, false, false, false, false, false, false, false, false, false, false, false, false] rfl rfl (by kernel_rfl) (fun _ _ _ h => h) (Or.inl ⟨by rfl, ?_⟩) ?_ ?_
      rotate_left
      · intro w'
        go_simp
        try with_reducible rfl
      rotate_left
      · simp only [Act.put, List.setIfInBounds_toArray, List.set_cons_zero, List.set_cons_succ]
        rfl
      refine take_ (i := 1) (N := some 60) (v := ?_) (a' := ?_) #[true, true, false, false, false, false, false, false, false, false, false, false, false] rfl rfl (by kernel_rfl) (fun _ _ _ h => h) (Or.inl ⟨by rfl, ?_⟩) hHeld ?_ ?_
      rotate_left
      · rintro w' ⟨s0, s1, s2, s3, s4, s5⟩
        go_simp
        try with_reducible rfl
      rotate_left
      · simp only [Act.put, List.setIfInBounds_toArray, List.set_cons_zero, List.set_cons_succ]
        rfl
      refine pure_ (i := 2) (N := some 61) (v := ?_) (a' := ?_) #[true, true, true, false, false, false, false, false, false, false, false, false, false] rfl rfl (by kernel_rfl) (fun _ _ _ h => h) (Or.inl ⟨by rfl, ?_⟩) ?_ ?_
      rotate_left
      · intro w'
        go_simp
        try with_reducible rfl
      rotate_left
      · simp only [Act.put, List.setIfInBounds_toArray, List.set_cons_zero, List.set_cons_succ]
        rfl
      refine take_ (i := 3) (N := some 62) (v := ?_) (a' := ?_) #[true, true, true, true, false, false, false, false, false, false, false, false, false] rfl rfl (by kernel_rfl) (fun _ _ _ h => h) (Or.inl ⟨by rfl, ?_⟩) hHeld ?_ ?_
      rotate_left
      · rintro w' ⟨s0, s1, s2, s3, s4, s5⟩
        go_simp
        try with_reducible rfl
      rotate_left
      · simp only [Act.put, List.setIfInBounds_toArray, List.set_cons_zero, List.set_cons_succ]
        rfl
      refine pure_ (i := 4) (N := some 63) (v := ?_) (a' := ?_) #[true, true, true, true, true, false, false, false, false, false, false, false, false] rfl rfl (by kernel_rfl) (fun _ _ _ h => h) (Or.inl ⟨by rfl, ?_⟩) ?_ ?_
      rotate_left
      · intro w'
        go_simp
        try with_reducible rfl
      rotate_left
      · simp only [Act.put, List.setIfInBounds_toArray, List.set_cons_zero, List.set_cons_succ]
        rfl
      refine take_ (i := 5) (N := some 64) (v := ?_) (a' := ?_) #[true, true, true, true, true, true, false, false, false, false, false, false, false] rfl rfl (by kernel_rfl) (fun _ _ _ h => h) (Or.inl ⟨by rfl, ?_⟩) hHeld ?_ ?_
      rotate_left
      · rintro w' ⟨s0, s1, s2, s3, s4, s5⟩
        go_simp
        try with_reducible rfl
      rotate_left
      · simp only [Act.put, List.setIfInBounds_toArray, List.set_cons_zero, List.set_cons_succ]
        rfl
      refine pure_ (i := 6) (N := some 65) (v := ?_) (a' := ?_) #[true, true, true, true, true, true, true, false, false, false, false, false, false] rfl rfl (by kernel_rfl) (fun _ _ _ h => h) (Or.inl ⟨by rfl, ?_⟩) ?_ ?_
      rotate_left
      · intro w'
        go_simp
        try with_reducible rfl
      rotate_left
      · simp only [Act.put, List.setIfInBounds_toArray, List.set_cons_zero, List.set_cons_succ]
        rfl
      refine pure_ (i := 7) (N := some 66) (v := ?_) (a' := ?_) #[true, true, true, true, true, true, true, true, false, false, false, false, false] rfl rfl (by kernel_rfl) (fun _ _ _ h => h) (Or.inl ⟨by rfl, ?_⟩) ?_ ?_
      rotate_left
      · intro w'
        go_simp
        try with_reducible rfl
      rotate_left
      · simp only [Act.put, List.setIfInBounds_toArray, List.set_cons_zero, List.set_cons_succ]
        rfl
      refine pure_ (i := 8) (N := some 67) (v := ?_) (a' := ?_) #[true, true, true, true, true, true, true, true, true, false, false, false, false] rfl rfl (by kernel_rfl) (fun _ _ _ h => h) (Or.inl ⟨by rfl, ?_⟩) ?_ ?_
      rotate_left
      · intro w'
        go_simp
        try with_reducible rfl
      rotate_left
      · simp only [Act.put, List.setIfInBounds_toArray, List.set_cons_zero, List.set_cons_succ]
        rfl
      refine take_ (i := 9) (N := some 68) (v := ?_) (a' := ?_) #[true, true, true, true, true, true, true, true, true, true, false, false, false] rfl rfl (by kernel_rfl) (fun _ _ _ h => h) (Or.inl ⟨by rfl, ?_⟩) hHeld ?_ ?_
      rotate_left
      · rintro w' ⟨s0, s1, s2, s3, s4, s5⟩
        go_simp
        try with_reducible rfl
      rotate_left
      · simp only [Act.put, List.setIfInBounds_toArray, List.set_cons_zero, List.set_cons_succ]
        rfl
      refine pure_ (i := 10) (N := some 69) (v := ?_) (a' := ?_) #[true, true, true, true, true, true, true, true, true, true, true, false, false] rfl rfl (by kernel_rfl) (fun _ _ _ h => h) (Or.inl ⟨by rfl, ?_⟩) ?_ ?_
      rotate_left
      · intro w'
        go_simp
        try with_reducible rfl
      rotate_left
      · simp only [Act.put, List.setIfInBounds_toArray, List.set_cons_zero, List.set_cons_succ]
        rfl
      refine pure_ (i := 11) (N := some 70) (v := ?_) (a' := ?_) #[true, true, true, true, true, true, true, true, true, true, true, true, false] rfl rfl (by kernel_rfl) (fun _ _ _ h => h) (Or.inl ⟨by rfl, ?_⟩) ?_ ?_
      rotate_left
      · intro w'
        go_simp
        try with_reducible rfl
      rotate_left
      · simp only [Act.put, List.setIfInBounds_toArray, List.set_cons_zero, List.set_cons_succ]
        rfl
      refine last_ (i := 12) (N := none) #[true, true, true, true, true, true, true, true, true, true, true, true, true] rfl rfl (by kernel_rfl) (by decide) (fun K hK => ?_)
      go_simp
      refine hK.out _ _ ?_
      clear hK K
      try simp only [Act.put, List.setIfInBounds_toArray, List.set_cons_zero, List.set_cons_succ]
      refine done_ (by kernel_rfl) ?_
      have M3 : SvM w s.1 (s.2.set s.1 (D - C)) (frontsOf l ts done) gc cc gf cf (W2.setCell ⟨gc, s.1, none⟩ (.int .i64 (D - C))).drew := (M2.out.setCr s.1 (D - C)).drewN 1
      obtain ⟨W3, hW3⟩ : ∃ W3, W3 = (W2.setCell ⟨gc, s.1, none⟩ (.int .i64 (D - C))).drew := ⟨_, rfl⟩
      rw [← hW3] at M3 ⊢
      clear hW3 S0 hHeld
      have d1 : W3.cell? ⟨w.heap.size, 0, none⟩ = some (.int .i64 s.1) := M3.b6.cell 0
      have d2 : W3.cell? ⟨w.heap.size, 1, none⟩ = some (.slice (some ⟨gc, 0, none⟩) (s.2.set s.1 (D - C)).length cc) := M3.b6.cell 1
      have d3 : W3.cell? ⟨w.heap.size + 1, 0, none⟩ = some (.int .i64 0) := M3.b12.cell 0
      have d4 : W3.cell? ⟨w.heap.size + 1, 1, none⟩ = some (.slice none 0 0) := M3.b12.cell 1
      have d5 := fun j => M3.b12.free j
      have HM3 := Lib.hid M3
      clear M3
      generalize s.2.set s.1 (D - C) = cr at *
      go_wp2
      simp only [Exit.jump]
      have B4 := (HM3.out.b12.set 0 (.int .i64 s.1)).set 1 (.slice (some ⟨gc, 0, none⟩) cr.length cc)
      have R4 := (HM3.out.cr.other 0 (by omega : gc ≠ w.heap.size + 1) (.int .i64 s.1)).other 1 (by omega : gc ≠ w.heap.size + 1) (.slice (some ⟨gc, 0, none⟩) cr.length cc)
      have L4 := (HM3.out.low.setCell (p := ⟨w.heap.size + 1, 0, none⟩) (by show w.heap.size ≤ w.heap.size + 1; omega) (.int .i64 s.1)).setCell (p := ⟨w.heap.size + 1, 1, none⟩) (by show w.heap.size ≤ w.heap.size + 1; omega) (.slice (some ⟨gc, 0, none⟩) cr.length cc)
      obtain ⟨W4, hW4⟩ : ∃ W4, W4 = (W3.setCell ⟨w.heap.size + 1, 0, none⟩ (.int .i64 s.1)).setCell ⟨w.heap.size + 1, 1, none⟩ (.slice (some ⟨gc, 0, none⟩) cr.length cc) := ⟨_, rfl⟩
      rw [← hW4] at B4 R4 L4 ⊢
      have e0 : W4.cell? ⟨w.heap.size + 1, 0, none⟩ = some (.int .i64 s.1) := B4.cell 0
      have e1 : W4.cell? ⟨w.heap.size + 1, 1, none⟩ = some (.slice (some ⟨gc, 0, none⟩) cr.length cc) := B4.cell 1
      refine bodyPost_ret (v := .tuple #[.agg #[.int .i64 s.1, .slice (some ⟨gc, 0, none⟩) cr.length cc], .int .i64 i]) (by simp [results, Try.results27, Try.f27, go_sem, e0, e1]) rfl ?_
      exact ⟨((s.1, cr), i), gc, cc, HT.out.symm.trans hgo2.out, rfl, R4.mono (by omega), L4⟩
    have ht'le := (cfgOf l cs Q).nextT_le s
    obtain ⟨t', ht'⟩ : ∃ t', (cfgOf l cs Q).nextT s = t' := ⟨_, rfl⟩
    have hti : ((s.1 : Int) + 1) % ((l.length : Int) + 1) = (t' : Int) := by rw [← ht']; rfl
    rw [ht'] at ht'le
    have ht'le : t' ≤ l.length := ht'le
    have hNI := Cfg.next_in ok hs hstp
    have hNL := Cfg.meas_next ok hs hstp
    have hNG := (Cfg.go_next ok hs hstp).symm.trans hgo.out
    have hcm := Cfg.clear_most ok hs hstp t'
    have hwt := ok.w t' ht'le
    have hfa2 := frontsOf_at l ts done ht'le
    have hNX : (cfgOf l cs Q).next (frontsOf l ts done) s = (t', if 0 ≤ frontOf l ts done t' then ((cfgOf l cs Q).clear (frontsOf l ts done) s).set t' (((cfgOf l cs Q).clear (frontsOf l ts done) s).getD t' 0 + Q * (cfgOf l cs Q).wt t') else (cfgOf l cs Q).clear (frontsOf l ts done) s) := by
      unfold Cfg.next
      rw [ht', hfa2]
      rfl
    have c5 := HM.out.fr.at (j := t') (by rw [hfl.out]; omega) (-1)
    rw [hfa2] at c5
    have t0 : (0 : Int) ≤ (t' : Int) := by omega
    have t1 : (t' : Int) < (l.length : Int) + 1 := by omega
    have t2 : (t' : Int) < (s.2.length : Int) := by have := hsl.out; omega
    have hclen := (cfgOf l cs Q).clear_len (frontsOf l ts done) s
    have hWT := weight_any l al cl t' cs Q
    by_cases hneg : frontOf l ts done s.1 < 0
    case pos =>
      have hCL : (cfgOf l cs Q).clear (frontsOf l ts done) s = s.2.set s.1 0 := by
        unfold Cfg.clear
        rw [hfa, if_pos hneg]
      have q1 : decide (frontOf l ts done s.1 ≥ 0) = false := decide_eq_false (by omega)
      have q2 : decide (frontOf l ts done s.1 < 0) = true := decide_eq_true hneg
      obtain ⟨f, hf⟩ : ∃ f, frontOf l ts done s.1 = f := ⟨_, rfl⟩
      rw [hf] at q1 q2 c4
      rw [hCL] at hNX hcm hclen
      clear hf hneg hCL hst0 hfr hfa
      by_cases hn2 : 0 ≤ frontOf l ts done t'
      case neg =>
        rw [if_neg hn2] at hNX
        have q6 : decide (frontOf l ts done t' ≥ 0) = false := decide_eq_false (by omega)
        obtain ⟨f', hf'⟩ : ∃ f', frontOf l ts done t' = f' := ⟨_, rfl⟩
        rw [hf'] at q6 c5
        rw [hNX] at hNI hNL hNG
        have HN := Lib.hid (And.intro hNI (And.intro hNL hNG))
        clear hNX hn2 hf' hNI hNL hNG hwt hfa2 hcm ht' hlow hs6 hcr hcs hq hx hd ok g hWT hclen hstp ht'le
        go_wp2
        go_quiet (fail)
        go_wp2
        go_step3
        exact ⟨rfl, _, by rw [← hn.out]; exact HN.out.2.1, (t', s.2.set s.1 0), gc, cc, gf, cf, by rfl, by rfl, by rfl, ((HM.out.drewN nq).setCr s.1 0).setT t', HN.out.1, rfl, HN.out.2.2⟩
      case pos =>
        rw [if_pos hn2] at hNX
        have q6 : decide (frontOf l ts done t' ≥ 0) = true := decide_eq_true (by omega)
        obtain ⟨f', hf'⟩ : ∃ f', frontOf l ts done t' = f' := ⟨_, rfl⟩
        rw [hf'] at q6 c5
        rw [hNX] at hNI hNL hNG
        obtain ⟨wv, hwv⟩ : ∃ wv, (cfgOf l cs Q).wt t' = wv := ⟨_, rfl⟩
        obtain ⟨D', hD'⟩ : ∃ D', (s.2.set s.1 0).getD t' 0 = D' := ⟨_, rfl⟩
        rw [hwv] at hwt hWT hNI hNL hNG
        rw [hD'] at hcm hNI hNL hNG
        have hmp := mul_pos_le g.q hwt
        have m1 : IntKind.i64.wrap (Q * wv) = Q * wv := IntWalk.i64_in _ (by omega)
        have m2 : IntKind.i64.wrap (D' + Q * wv) = D' + Q * wv := IntWalk.i64_in _ (by omega)
        have HN := Lib.hid (And.intro hNI (And.intro hNL hNG))
        have HX := Lib.hid (And.intro hx hD')
        have I0 : Hid (∀ wx, Shs wx al l → Calls Try.prog 36 #[.slice al l.length cl, .int .i64 t'] wx fun e w' => e = .returned (.int .i64 wv) ∧ w' = wx) := Lib.hid fun wx h => hWT wx h hc (by omega) ht'le
        clear hNX hn2 hf' hNI hNL hNG hwt hfa2 hcm ht' hlow hs6 hcr hcs hq hx hd ok g hWT hclen hstp ht'le hmp hwv hD'
        go_wp2
        go_quiet (fail)
        go_wp2
        obtain ⟨W2, hW2⟩ : ∃ W2, W2 = ((wr.drewN nq).setCell ⟨gc, s.1, none⟩ (.int .i64 0)).setCell ⟨w.heap.size, 0, none⟩ (.int .i64 t') := ⟨_, rfl⟩
        have M2 : SvM w t' (s.2.set s.1 0) (frontsOf l ts done) gc cc gf cf W2 := by rw [hW2]; exact ((HM.out.drewN nq).setCr s.1 0).setT t'
        have hX2 : Shs W2 al l := HX.out.1.below M2.low
        rw [← hW2]
        have HL : (s.2.set s.1 0).length = s.2.length := by simp
        have HD := HX.out.2
        clear hW2 c1 c2 c3 c4 z1 z2 z3 z4 c5
        have p3 := M2.cr.at (j := t') (by have := hsl.out; omega) 0
        rw [HD] at p3
        have p2 : W2.cell? ⟨w.heap.size, 1, none⟩ = some (.slice (some ⟨gc, 0, none⟩) (s.2.set s.1 0).length cc) := M2.b6.cell 1
        have p1 : W2.cell? ⟨w.heap.size, 0, none⟩ = some (.int .i64 t') := M2.b6.cell 0
        try simp only [List.length_set] at p2
        have KK : Hid (∀ wx, Below W2.heap.size W2 wx → Below W2.heap.size W2 wx ∧ wx.cell? ⟨w.heap.size, 0, none⟩ = some (.int .i64 t') ∧ wx.cell? ⟨w.heap.size, 1, none⟩ = some (.slice (some ⟨gc, 0, none⟩) s.2.length cc) ∧ wx.cell? ⟨gc, t', none⟩ = some (.int .i64 D') ∧ (∀ j, wx.frozen? ⟨gc, j, none⟩ = false)) := Lib.hid fun wx hb => ⟨hb, below_keep hb p1, below_keep hb p2, below_keep hb p3, fun j => (M2.below hb).cr.free j⟩
        have I1 : Hid (∀ wx, Below W2.heap.size W2 wx → Calls Try.prog 36 #[.slice al l.length cl, .int .i64 t'] wx fun e w' => e = .returned (.int .i64 wv) ∧ Below W2.heap.size W2 w') := Lib.hid fun wx hb => (I0.out wx (hX2.below hb)).mono fun e w' h => ⟨h.1, by rw [h.2]; exact hb⟩
        have S0 := KK.out W2.drew (Below.refl _ _).drew
        have HM2 := Lib.hid M2
        clear p1 p2 p3 M2 hX2 HL HD
        refine start_ (n := 15) (S := (fun wx => Below W2.heap.size W2 wx ∧ wx.cell? ⟨w.heap.size, 0, none⟩ = some (.int .i64 t') ∧ wx.cell? ⟨w.heap.size, 1, none⟩ = some (.slice (some ⟨gc, 0, none⟩) s.2.length cc) ∧ wx.cell? ⟨gc, t', none⟩ = some (.int .i64 D') ∧ (∀ j, wx.frozen? ⟨gc, j, none⟩ = false))) (ds := [14]) #[false, false, false, false, false, false, false, false, false, false, false, false, false, false, false] (by kernel_rfl) rfl rfl S0 (fun hHeld => ?_)
        refine pure_ (i := 0) (N := some 93) (v := ?_) (a' := ?_) #[true, false, false, false, false, false, false, false, false, false, false, false, false, false, false] rfl rfl (by kernel_rfl) (fun _ _ _ h => h) (Or.inl ⟨by rfl, ?_⟩) ?_ ?_
        rotate_left
        · intro w'
          go_simp
          try with_reducible rfl
        rotate_left
        · simp only [Act.put, List.setIfInBounds_toArray, List.set_cons_zero, List.set_cons_succ]
          rfl
        refine take_ (i := 1) (N := some 94) (v := ?_) (a' := ?_) #[true, true, false, false, false, false, false, false, false, false, false, false, false, false, false] rfl rfl (by kernel_rfl) (fun _ _ _ h => h) (Or.inl ⟨by rfl, ?_⟩) hHeld ?_ ?_
        rotate_left
        · rintro w' ⟨s0, s1, s2, s3, s4⟩
          go_simp
          try with_reducible rfl
        rotate_left
        · simp only [Act.put, List.setIfInBounds_toArray, List.set_cons_zero, List.set_cons_succ]
          rfl
        refine pure_ (i := 2) (N := some 95) (v := ?_) (a' := ?_) #[true, true, true, false, false, false, false, false, false, false, false, false, false, false, false] rfl rfl (by kernel_rfl) (fun _ _ _ h => h) (Or.inl ⟨by rfl, ?_⟩) ?_ ?_
        rotate_left
        · intro w'
          go_simp
          try with_reducible rfl
        rotate_left
        · simp only [Act.put, List.setIfInBounds_toArray, List.set_cons_zero, List.set_cons_succ]
          rfl
        refine take_ (i := 3) (N := some 96) (v := ?_) (a' := ?_) #[true, true, true, true, false, false, false, false, false, false, false, false, false, false, false] rfl rfl (by kernel_rfl) (fun _ _ _ h => h) (Or.inl ⟨by rfl, ?_⟩) hHeld ?_ ?_
        rotate_left
        · rintro w' ⟨s0, s1, s2, s3, s4⟩
          go_simp
          try with_reducible rfl
        rotate_left
        · simp only [Act.put, List.setIfInBounds_toArray, List.set_cons_zero, List.set_cons_succ]
          rfl
        refine pure_ (i := 4) (N := some 97) (v := ?_) (a' := ?_) #[true, true, true, true, true, false, false, false, false, false, false, false, false, false, false] rfl rfl (by kernel_rfl) (fun _ _ _ h => h) (Or.inl ⟨by rfl, ?_⟩) ?_ ?_
        rotate_left
        · intro w'
          go_simp
          try with_reducible rfl
        rotate_left
        · simp only [Act.put, List.setIfInBounds_toArray, List.set_cons_zero, List.set_cons_succ]
          rfl
        refine take_ (i := 5) (N := some 98) (v := ?_) (a' := ?_) #[true, true, true, true, true, true, false, false, false, false, false, false, false, false, false] rfl rfl (by kernel_rfl) (fun _ _ _ h => h) (Or.inl ⟨by rfl, ?_⟩) hHeld ?_ ?_
        rotate_left
        · rintro w' ⟨s0, s1, s2, s3, s4⟩
          go_simp
          try with_reducible rfl
        rotate_left
        · simp only [Act.put, List.setIfInBounds_toArray, List.set_cons_zero, List.set_cons_succ]
          rfl
        refine pure_ (i := 6) (N := some 99) (v := ?_) (a' := ?_) #[true, true, true, true, true, true, true, false, false, false, false, false, false, false, false] rfl rfl (by kernel_rfl) (fun _ _ _ h => h) (Or.inl ⟨by rfl, ?_⟩) ?_ ?_
        rotate_left
        · intro w'
          go_simp
          try with_reducible rfl
        rotate_left
        · simp only [Act.put, List.setIfInBounds_toArray, List.set_cons_zero, List.set_cons_succ]
          rfl
        refine pure_ (i := 7) (N := some 100) (v := ?_) (a' := ?_) #[true, true, true, true, true, true, true, true, false, false, false, false, false, false, false] rfl rfl (by kernel_rfl) (fun _ _ _ h => h) (Or.inl ⟨by rfl, ?_⟩) ?_ ?_
        rotate_left
        · intro w'
          go_simp
          try with_reducible rfl
        rotate_left
        · simp only [Act.put, List.setIfInBounds_toArray, List.set_cons_zero, List.set_cons_succ]
          rfl
        refine pure_ (i := 8) (N := some 101) (v := ?_) (a' := ?_) #[true, true, true, true, true, true, true, true, true, false, false, false, false, false, false] rfl rfl (by kernel_rfl) (fun _ _ _ h => h) (Or.inl ⟨by rfl, ?_⟩) ?_ ?_
        rotate_left
        · intro w'
          go_simp
          try with_reducible rfl
        rotate_left
        · simp only [Act.put, List.setIfInBounds_toArray, List.set_cons_zero, List.set_cons_succ]
          rfl
        refine take_ (i := 9) (N := some 102) (v := ?_) (a' := ?_) #[true, true, true, true, true, true, true, true, true, true, false, false, false, false, false] rfl rfl (by kernel_rfl) (fun _ _ _ h => h) (Or.inl ⟨by rfl, ?_⟩) hHeld ?_ ?_
        rotate_left
        · rintro w' ⟨s0, s1, s2, s3, s4⟩
          go_simp
          try with_reducible rfl
        rotate_left
        · simp only [Act.put, List.setIfInBounds_toArray, List.set_cons_zero, List.set_cons_succ]
          rfl
        refine one_ (i := 10) (N := some 103) #[true, true, true, true, true, true, true, true, true, true, true, false, false, false, false] rfl rfl (by kernel_rfl) (by decide) (fun K hK => ?_)
        go_simp
        refine (I1.out _ hHeld.1).mono ?_
        rintro e w4 ⟨rfl, hb4⟩
        refine hK.out _ _ (KK.out _ hb4) (fun hHeld => ?_)
        clear hK K
        try simp only [Act.put, List.setIfInBounds_toArray, List.set_cons_zero, List.set_cons_succ]
        refine pure_ (i := 11) (N := some 104) (v := ?_) (a' := ?_) #[true, true, true, true, true, true, true, true, true, true, true, true, false, false, false] rfl rfl (by kernel_rfl) (fun _ _ _ h => h) (Or.inl ⟨by rfl, ?_⟩) ?_ ?_
        rotate_left
        · intro w'
          go_simp
          try with_reducible rfl
        rotate_left
        · simp only [Act.put, List.setIfInBounds_toArray, List.set_cons_zero, List.set_cons_succ]
          rfl
        refine pure_ (i := 12) (N := some 105) (v := ?_) (a' := ?_) #[true, true, true, true, true, true, true, true, true, true, true, true, true, false, false] rfl rfl (by kernel_rfl) (fun _ _ _ h => h) (Or.inl ⟨by rfl, ?_⟩) ?_ ?_
        rotate_left
        · intro w'
          go_simp
          try with_reducible rfl
        rotate_left
        · simp only [Act.put, List.setIfInBounds_toArray, List.set_cons_zero, List.set_cons_succ]
          rfl
        refine pure_ (i := 13) (N := some 106) (v := ?_) (a' := ?_) #[true, true, true, true, true, true, true, true, true, true, true, true, true, true, false] rfl rfl (by kernel_rfl) (fun _ _ _ h => h) (Or.inl ⟨by rfl, ?_⟩) ?_ ?_
        rotate_left
        · intro w'
          go_simp
          try with_reducible rfl
        rotate_left
        · simp only [Act.put, List.setIfInBounds_toArray, List.set_cons_zero, List.set_cons_succ]
          rfl
        refine last_ (i := 14) (N := none) #[true, true, true, true, true, true, true, true, true, true, true, true, true, true, true] rfl rfl (by kernel_rfl) (by decide) (fun K hK => ?_)
        go_simp
        refine hK.out _ _ ?_
        clear hK K
        try simp only [Act.put, List.setIfInBounds_toArray, List.set_cons_zero, List.set_cons_succ]
        refine done_ (by kernel_rfl) ?_
        go_wp2
        go_step3
        exact ⟨rfl, _, by rw [← hn.out]; exact HN.out.2.1, (t', (s.2.set s.1 0).set t' (D' + Q * wv)), gc, cc, gf, cf, by rfl, by rfl, by rfl, (HM2.out.below hb4).setCr t' (D' + Q * wv), HN.out.1, rfl, HN.out.2.2⟩

    case neg =>
      have hCL : (cfgOf l cs Q).clear (frontsOf l ts done) s = s.2 := by
        unfold Cfg.clear
        rw [hfa, if_neg hneg]
      have hf0 : 0 ≤ frontOf l ts done s.1 := by omega
      have hfl2 := hfr.lt hf0
      obtain ⟨i, hi⟩ : ∃ i : Nat, frontOf l ts done s.1 = i := ⟨_, (Int.toNat_of_nonneg hf0).symm⟩
      have hco : ¬ cs.getD i 0 ≤ s.2.getD s.1 0 := fun h => hstp (hst0.2 ⟨hf0, by rw [hi]; exact h⟩)
      rw [hi] at c4 hfl2
      have hilt : i < cs.length := by have := g.len; omega
      obtain ⟨xc, rfl, hcc⟩ := (hcs.below hlow).at hilt
      have q1 : decide ((i : Int) ≥ 0) = true := decide_eq_true (by omega)
      have q2 : decide (cs.getD i 0 ≤ s.2.getD s.1 0) = false := decide_eq_false hco
      have q5 : decide ((i : Int) < 0) = false := decide_eq_false (by omega)
      have q3 : (0 : Int) ≤ (i : Int) := by omega
      have q4 : (i : Int) < (cs.length : Int) := by omega
      obtain ⟨C, hC⟩ : ∃ C, cs.getD i 0 = C := ⟨_, rfl⟩
      obtain ⟨D, hD⟩ : ∃ D, s.2.getD s.1 0 = D := ⟨_, rfl⟩
      rw [hC] at hcc q2
      rw [hD] at q2 c3
      rw [hCL] at hNX hcm hclen
      clear hst0 hfr hf0 hfa hfl2 hilt hco hi hC hD hCL hneg
      by_cases hn2 : 0 ≤ frontOf l ts done t'
      case neg =>
        rw [if_neg hn2] at hNX
        have q6 : decide (frontOf l ts done t' ≥ 0) = false := decide_eq_false (by omega)
        obtain ⟨f', hf'⟩ : ∃ f', frontOf l ts done t' = f' := ⟨_, rfl⟩
        rw [hf'] at q6 c5
        rw [hNX] at hNI hNL hNG
        have HN := Lib.hid (And.intro hNI (And.intro hNL hNG))
        clear hNX hn2 hf' hNI hNL hNG hwt hfa2 hcm ht' hlow hs6 hcr hcs hq hx hd ok g hWT hclen hstp ht'le
        go_wp2
        go_quiet (fail)
        go_wp2
        go_step3
        exact ⟨rfl, _, by rw [← hn.out]; exact HN.out.2.1, (t', s.2), gc, cc, gf, cf, by rfl, by rfl, by rfl, (HM.out.drewN nq).setT t', HN.out.1, rfl, HN.out.2.2⟩
      case pos =>
        rw [if_pos hn2] at hNX
        have q6 : decide (frontOf l ts done t' ≥ 0) = true := decide_eq_true (by omega)
        obtain ⟨f', hf'⟩ : ∃ f', frontOf l ts done t' = f' := ⟨_, rfl⟩
        rw [hf'] at q6 c5
        rw [hNX] at hNI hNL hNG
        obtain ⟨wv, hwv⟩ : ∃ wv, (cfgOf l cs Q).wt t' = wv := ⟨_, rfl⟩
        obtain ⟨D', hD'⟩ : ∃ D', s.2.getD t' 0 = D' := ⟨_, rfl⟩
        rw [hwv] at hwt hWT hNI hNL hNG
        rw [hD'] at hcm hNI hNL hNG
        have hmp := mul_pos_le g.q hwt
        have m1 : IntKind.i64.wrap (Q * wv) = Q * wv := IntWalk.i64_in _ (by omega)
        have m2 : IntKind.i64.wrap (D' + Q * wv) = D' + Q * wv := IntWalk.i64_in _ (by omega)
        have HN := Lib.hid (And.intro hNI (And.intro hNL hNG))
        have HX := Lib.hid (And.intro hx hD')
        have I0 : Hid (∀ wx, Shs wx al l → Calls Try.prog 36 #[.slice al l.length cl, .int .i64 t'] wx fun e w' => e = .returned (.int .i64 wv) ∧ w' = wx) := Lib.hid fun wx h => hWT wx h hc (by omega) ht'le
        clear hNX hn2 hf' hNI hNL hNG hwt hfa2 hcm ht' hlow hs6 hcr hcs hq hx hd ok g hWT hclen hstp ht'le hmp hwv hD'
        go_wp2
        go_quiet (fail)
        go_wp2
        obtain ⟨W2, hW2⟩ : ∃ W2, W2 = (wr.drewN nq).setCell ⟨w.heap.size, 0, none⟩ (.int .i64 t') := ⟨_, rfl⟩
        have M2 : SvM w t' s.2 (frontsOf l ts done) gc cc gf cf W2 := by rw [hW2]; exact (HM.out.drewN nq).setT t'
        have hX2 : Shs W2 al l := HX.out.1.below M2.low
        rw [← hW2]
        have HL : s.2.length = s.2.length := by simp
        have HD := HX.out.2
        clear hW2 c1 c2 c3 c4 z1 z2 z3 z4 c5 hcc
        have p3 := M2.cr.at (j := t') (by have := hsl.out; omega) 0
        rw [HD] at p3
        have p2 : W2.cell? ⟨w.heap.size, 1, none⟩ = some (.slice (some ⟨gc, 0, none⟩) s.2.length cc) := M2.b6.cell 1
        have p1 : W2.cell? ⟨w.heap.size, 0, none⟩ = some (.int .i64 t') := M2.b6.cell 0
        try simp only [List.length_set] at p2
        have KK : Hid (∀ wx, Below W2.heap.size W2 wx → Below W2.heap.size W2 wx ∧ wx.cell? ⟨w.heap.size, 0, none⟩ = some (.int .i64 t') ∧ wx.cell? ⟨w.heap.size, 1, none⟩ = some (.slice (some ⟨gc, 0, none⟩) s.2.length cc) ∧ wx.cell? ⟨gc, t', none⟩ = some (.int .i64 D') ∧ (∀ j, wx.frozen? ⟨gc, j, none⟩ = false)) := Lib.hid fun wx hb => ⟨hb, below_keep hb p1, below_keep hb p2, below_keep hb p3, fun j => (M2.below hb).cr.free j⟩
        have I1 : Hid (∀ wx, Below W2.heap.size W2 wx → Calls Try.prog 36 #[.slice al l.length cl, .int .i64 t'] wx fun e w' => e = .returned (.int .i64 wv) ∧ Below W2.heap.size W2 w') := Lib.hid fun wx hb => (I0.out wx (hX2.below hb)).mono fun e w' h => ⟨h.1, by rw [h.2]; exact hb⟩
        have S0 := KK.out W2.drew (Below.refl _ _).drew
        have HM2 := Lib.hid M2
        clear p1 p2 p3 M2 hX2 HL HD
        refine start_ (n := 15) (S := (fun wx => Below W2.heap.size W2 wx ∧ wx.cell? ⟨w.heap.size, 0, none⟩ = some (.int .i64 t') ∧ wx.cell? ⟨w.heap.size, 1, none⟩ = some (.slice (some ⟨gc, 0, none⟩) s.2.length cc) ∧ wx.cell? ⟨gc, t', none⟩ = some (.int .i64 D') ∧ (∀ j, wx.frozen? ⟨gc, j, none⟩ = false))) (ds := [14]) #[false, false, false, false, false, false, false, false, false, false, false, false, false, false, false] (by kernel_rfl) rfl rfl S0 (fun hHeld => ?_)
        refine pure_ (i := 0) (N := some 93) (v := ?_) (a' := ?_) #[true, false, false, false, false, false, false, false, false, false, false, false, false, false, false] rfl rfl (by kernel_rfl) (fun _ _ _ h => h) (Or.inl ⟨by rfl, ?_⟩) ?_ ?_
        rotate_left
        · intro w'
          go_simp
          try with_reducible rfl
        rotate_left
        · simp only [Act.put, List.setIfInBounds_toArray, List.set_cons_zero, List.set_cons_succ]
          rfl
        refine take_ (i := 1) (N := some 94) (v := ?_) (a' := ?_) #[true, true, false, false, false, false, false, false, false, false, false, false, false, false, false] rfl rfl (by kernel_rfl) (fun _ _ _ h => h) (Or.inl ⟨by rfl, ?_⟩) hHeld ?_ ?_
        rotate_left
        · rintro w' ⟨s0, s1, s2, s3, s4⟩
          go_simp
          try with_reducible rfl
        rotate_left
        · simp only [Act.put, List.setIfInBounds_toArray, List.set_cons_zero, List.set_cons_succ]
          rfl
        refine pure_ (i := 2) (N := some 95) (v := ?_) (a' := ?_) #[true, true, true, false, false, false, false, false, false, false, false, false, false, false, false] rfl rfl (by kernel_rfl) (fun _ _ _ h => h) (Or.inl ⟨by rfl, ?_⟩) ?_ ?_
        rotate_left
        · intro w'
          go_simp
          try with_reducible rfl
        rotate_left
        · simp only [Act.put, List.setIfInBounds_toArray, List.set_cons_zero, List.set_cons_succ]
          rfl
        refine take_ (i := 3) (N := some 96) (v := ?_) (a' := ?_) #[true, true, true, true, false, false, false, false, false, false, false, false, false, false, false] rfl rfl (by kernel_rfl) (fun _ _ _ h => h) (Or.inl ⟨by rfl, ?_⟩) hHeld ?_ ?_
        rotate_left
        · rintro w' ⟨s0, s1, s2, s3, s4⟩
          go_simp
          try with_reducible rfl
        rotate_left
        · simp only [Act.put, List.setIfInBounds_toArray, List.set_cons_zero, List.set_cons_succ]
          rfl
        refine pure_ (i := 4) (N := some 97) (v := ?_) (a' := ?_) #[true, true, true, true, true, false, false, false, false, false, false, false, false, false, false] rfl rfl (by kernel_rfl) (fun _ _ _ h => h) (Or.inl ⟨by rfl, ?_⟩) ?_ ?_
        rotate_left
        · intro w'
          go_simp
          try with_reducible rfl
        rotate_left
        · simp only [Act.put, List.setIfInBounds_toArray, List.set_cons_zero, List.set_cons_succ]
          rfl
        refine take_ (i := 5) (N := some 98) (v := ?_) (a' := ?_) #[true, true, true, true, true, true, false, false, false, false, false, false, false, false, false] rfl rfl (by kernel_rfl) (fun _ _ _ h => h) (Or.inl ⟨by rfl, ?_⟩) hHeld ?_ ?_
        rotate_left
        · rintro w' ⟨s0, s1, s2, s3, s4⟩
          go_simp
          try with_reducible rfl
        rotate_left
        · simp only [Act.put, List.setIfInBounds_toArray, List.set_cons_zero, List.set_cons_succ]
          rfl
        refine pure_ (i := 6) (N := some 99) (v := ?_) (a' := ?_) #[true, true, true, true, true, true, true, false, false, false, false, false, false, false, false] rfl rfl (by kernel_rfl) (fun _ _ _ h => h) (Or.inl ⟨by rfl, ?_⟩) ?_ ?_
        rotate_left
        · intro w'
          go_simp
          try with_reducible rfl
        rotate_left
        · simp only [Act.put, List.setIfInBounds_toArray, List.set_cons_zero, List.set_cons_succ]
          rfl
        refine pure_ (i := 7) (N := some 100) (v := ?_) (a' := ?_) #[true, true, true, true, true, true, true, true, false, false, false, false, false, false, false] rfl rfl (by kernel_rfl) (fun _ _ _ h => h) (Or.inl ⟨by rfl, ?_⟩) ?_ ?_
        rotate_left
        · intro w'
          go_simp
          try with_reducible rfl
        rotate_left
        · simp only [Act.put, List.setIfInBounds_toArray, List.set_cons_zero, List.set_cons_succ]
          rfl
        refine pure_ (i := 8) (N := some 101) (v := ?_) (a' := ?_) #[true, true, true, true, true, true, true, true, true, false, false, false, false, false, false] rfl rfl (by kernel_rfl) (fun _ _ _ h => h) (Or.inl ⟨by rfl, ?_⟩) ?_ ?_
        rotate_left
        · intro w'
          go_simp
          try with_reducible rfl
        rotate_left
        · simp only [Act.put, List.setIfInBounds_toArray, List.set_cons_zero, List.set_cons_succ]
          rfl
        refine take_ (i := 9) (N := some 102) (v := ?_) (a' := ?_) #[true, true, true, true, true, true, true, true, true, true, false, false, false, false, false] rfl rfl (by kernel_rfl) (fun _ _ _ h => h) (Or.inl ⟨by rfl, ?_⟩) hHeld ?_ ?_
        rotate_left
        · rintro w' ⟨s0, s1, s2, s3, s4⟩
          go_simp
          try with_reducible rfl
        rotate_left
        · simp only [Act.put, List.setIfInBounds_toArray, List.set_cons_zero, List.set_cons_succ]
          rfl
        refine one_ (i := 10) (N := some 103) #[true, true, true, true, true, true, true, true, true, true, true, false, false, false, false] rfl rfl (by kernel_rfl) (by decide) (fun K hK => ?_)
        go_simp
        refine (I1.out _ hHeld.1).mono ?_
        rintro e w4 ⟨rfl, hb4⟩
        refine hK.out _ _ (KK.out _ hb4) (fun hHeld => ?_)
        clear hK K
        try simp only [Act.put, List.setIfInBounds_toArray, List.set_cons_zero, List.set_cons_succ]
        refine pure_ (i := 11) (N := some 104) (v := ?_) (a' := ?_) #[true, true, true, true, true, true, true, true, true, true, true, true, false, false, false] rfl rfl (by kernel_rfl) (fun _ _ _ h => h) (Or.inl ⟨by rfl, ?_⟩) ?_ ?_
        rotate_left
        · intro w'
          go_simp
          try with_reducible rfl
        rotate_left
        · simp only [Act.put, List.setIfInBounds_toArray, List.set_cons_zero, List.set_cons_succ]
          rfl
        refine pure_ (i := 12) (N := some 105) (v := ?_) (a' := ?_) #[true, true, true, true, true, true, true, true, true, true, true, true, true, false, false] rfl rfl (by kernel_rfl) (fun _ _ _ h => h) (Or.inl ⟨by rfl, ?_⟩) ?_ ?_
        rotate_left
        · intro w'
          go_simp
          try with_reducible rfl
        rotate_left
        · simp only [Act.put, List.setIfInBounds_toArray, List.set_cons_zero, List.set_cons_succ]
          rfl
        refine pure_ (i := 13) (N := some 106) (v := ?_) (a' := ?_) #[true, true, true, true, true, true, true, true, true, true, true, true, true, true, false] rfl rfl (by kernel_rfl) (fun _ _ _ h => h) (Or.inl ⟨by rfl, ?_⟩) ?_ ?_
        rotate_left
        · intro w'
          go_simp
          try with_reducible rfl
        rotate_left
        · simp only [Act.put, List.setIfInBounds_toArray, List.set_cons_zero, List.set_cons_succ]
          rfl
        refine last_ (i := 14) (N := none) #[true, true, true, true, true, true, true, true, true, true, true, true, true, true, true] rfl rfl (by kernel_rfl) (by decide) (fun K hK => ?_)
        go_simp
        refine hK.out _ _ ?_
        clear hK K
        try simp only [Act.put, List.setIfInBounds_toArray, List.set_cons_zero, List.set_cons_succ]
        refine done_ (by kernel_rfl) ?_
        go_wp2
        go_step3
        exact ⟨rfl, _, by rw [← hn.out]; exact HN.out.2.1, (t', s.2.set t' (D' + Q * wv)), gc, cc, gf, cf, by rfl, by rfl, by rfl, (HM2.out.below hb4).setCr t' (D' + Q * wv), HN.out.1, rfl, HN.out.2.2⟩

end Go.Proofs.Ytdfnpknekjgkiaa
