/- step in the reference. -/
import Derived.Test.YtdfnpknekjgkiaaD7
namespace Go.Proofs.Ytdfnpknekjgkiaa
open Go.RowKit
open Go.Proofs.YtdfnpknekjgkiaaW.PrintLast
set_option linter.unusedVariables false
set_option linter.unusedSimpArgs false

/-- The memory while the reference's turns go on. -/
structure StM (w : World) (t : Nat) (cr : List Int) (gc cc : Nat) (wr : World) : Prop where
  b6 : Blk wr w.heap.size 35 #[.int .i64 t, .slice (some ⟨gc, 0, none⟩) cr.length cc]
  b12 : Blk wr (w.heap.size + 1) 35 #[.int .i64 0, .slice none 0 0]
  cr : RowI wr (w.heap.size + 2) gc cc cr
  low : Below w.heap.size w wr
theorem StM.below {w wr w' : World} {t : Nat} {cr : List Int} {gc cc : Nat} (h : StM w t cr gc cc wr) (hb : Below wr.heap.size wr w') : StM w t cr gc cc w' :=
  ⟨h.b6.below hb, h.b12.below hb, h.cr.below hb, Below.next h.low hb⟩
theorem StM.drewN {w wr : World} {t : Nat} {cr : List Int} {gc cc : Nat} (h : StM w t cr gc cc wr) (n : Nat) : StM w t cr gc cc (wr.drewN n) :=
  ⟨h.b6, h.b12, h.cr, below_drewN h.low n⟩
theorem StM.setCr {w wr : World} {t : Nat} {cr : List Int} {gc cc : Nat} (h : StM w t cr gc cc wr) (j : Nat) (v : Int) : StM w t (cr.set j v) gc cc (wr.setCell ⟨gc, j, none⟩ (.int .i64 v)) := by
  obtain ⟨h1, h2, h3, h6⟩ := h
  have hlt := h3.lt
  exact ⟨by rw [List.length_set]; exact h1.other j (by omega) _, h2.other j (by omega) _, h3.set j v, h6.setCell (by show w.heap.size ≤ gc; omega) _⟩
theorem StM.setT {w wr : World} {t : Nat} {cr : List Int} {gc cc : Nat} (h : StM w t cr gc cc wr) (t' : Nat) : StM w t' cr gc cc (wr.setCell ⟨w.heap.size, 0, none⟩ (.int .i64 t')) := by
  obtain ⟨h1, h2, h3, h6⟩ := h
  have hlt := h3.lt
  exact ⟨h1.set 0 _, h2.other 0 (by omega) _, h3.other 0 (by omega) _, h6.setCell (Nat.le_refl _) _⟩
theorem StM.facts {w wr : World} {t : Nat} {cr : List Int} {gc cc : Nat} (h : StM w t cr gc cc wr) (h1 : t < cr.length) :
    wr.cell? ⟨w.heap.size, 0, none⟩ = some (.int .i64 t) ∧ wr.cell? ⟨w.heap.size, 1, none⟩ = some (.slice (some ⟨gc, 0, none⟩) cr.length cc) ∧ wr.cell? ⟨gc, t, none⟩ = some (.int .i64 (cr.getD t 0)) ∧ (∀ j, wr.frozen? ⟨w.heap.size, j, none⟩ = false) ∧ (∀ j, wr.frozen? ⟨gc, j, none⟩ = false) ∧ w.heap.size < gc ∧ w.heap.size + 1 < gc := by
  obtain ⟨a, b, c, f⟩ := h
  have := c.lt
  exact ⟨a.cell 0, a.cell 1, c.at h1 0, fun j => a.free j, fun j => c.free j, by omega, by omega⟩
set_option maxRecDepth 100000 in
set_option maxHeartbeats 8000000 in
theorem step_any (l : Shares) (ts : List ByteArray) (cs : List Int) (Q : Int) (done : List Bool) (s0 : St) (w : World) (ac aq ad al acs : Option Addr) (cc0 cq cd cl ccs : Nat)
    (g : Good l ts cs Q) (hin : (cfgOf l cs Q).In s0) (hcr : Ints .i64 w ac s0.2) (hq : Rqs w aq ts) (hx : Shs w al l) (hcs : Ints .i64 w acs cs) (hd : Vals w ad (done.map Value.bool)) (hdl : done.length = ts.length) (hc : l.length ≤ cl) (hl : l.length ≤ 64) (hcd : done.length ≤ cd) (hcq : ts.length ≤ cq) (htl : ts.length ≤ 64) (hccs : cs.length ≤ ccs) (hcc0 : s0.2.length ≤ cc0) (hcn : ac = none → cc0 = 0) (hund : ∃ j, done.getD j true = false) :
    Calls Try.prog 29 #[.agg #[.int .i64 s0.1, .slice ac s0.2.length cc0], .slice al l.length cl, .slice aq ts.length cq, .slice ad done.length cd, .slice acs cs.length ccs, .int .i64 Q] w fun e w' => ∃ (r : St × Nat) (g c : Nat), r = (cfgOf l cs Q).go (frontsOf l ts done) s0 ∧ e = .returned (.tuple #[.agg #[.int .i64 r.1.1, .slice (some ⟨g, 0, none⟩) r.1.2.length c], .int .i64 r.2]) ∧ RowI w' w.heap.size g c r.1.2 ∧ Below w.heap.size w w' := by
  have ok := hund.elim fun j hj => cfg_ok g hdl hj
  replace hdl := Lib.hid hdl
  have hslen : s0.2.length = l.length + 1 := hin.len
  obtain ⟨i0, hi, hz0, hz1, hz2⟩ := info_parts info3
  obtain ⟨W1, hW1⟩ : ∃ W1, W1 = (w.alloc (.cells #[.int .i64 s0.1, .slice ac s0.2.length cc0] 35)).alloc (.cells #[.int .i64 0, .slice none 0 0] 35) := ⟨_, rfl⟩
  have hb1 : Below w.heap.size w W1 := by rw [hW1]; exact below_alloc (below_alloc (Below.refl _ _) _) _
  have B6 : Blk W1 w.heap.size 35 #[.int .i64 s0.1, .slice ac s0.2.length cc0] := by rw [hW1]; exact (Blk.new w 35 _).alloc _
  have B12 : Blk W1 (w.heap.size + 1) 35 #[.int .i64 0, .slice none 0 0] := by
    have := Blk.new (w.alloc (.cells #[.int .i64 s0.1, .slice ac s0.2.length cc0] 35)) 35 #[.int .i64 0, .slice none 0 0]
    simp only [World.size_alloc] at this; rw [hW1]; exact this
  have hsz : W1.heap.size = w.heap.size + 2 := by rw [hW1]; simp
  have hown0 : (W1.alloc (.cells #[] 3)).ownsRow (w.heap.size + 2) 3 1 (.slice (some ⟨w.heap.size + 1 + 1, 0, none⟩) 0 0) 0 [] := by
    have := World.ownsRow_lit (base := w.heap.size + 2) (e := 3) (size := 1) W1 #[] 0 (by omega) (by unfold maxLen; omega) rfl
    rw [hsz] at this; exact this
  have hxv : Vals (W1.alloc (.cells #[] 3)) ac (s0.2.map (Value.int .i64)) := ((hcr.below hb1).below (below_alloc (Below.refl _ _) _)).vals
  have e1 : W1.cell? ⟨w.heap.size, 1, none⟩ = some (.slice ac s0.2.length cc0) := B6.cell 1
  have HBB := Lib.hid (And.intro B6 (And.intro B12 (And.intro hb1 (And.intro hsz hslen))))
  clear B6 B12 hb1 hsz hslen
  go_enter Try.func29, Try.ntmps29
  go_wp2_with (at_builtin; rw [← hW1]; refine wpList_append_vals _ rfl _ _ 27 rfl (w.heap.size + 2) 3 i0 (.int .i64 0) 8 Try.underlying27 hi hz0 hz1 hz2 rfl _ 0 [] rfl hown0 ac cc0 s0.2.length (s0.2.map (Value.int .i64)) (by simp) rfl hxv (ints_oneCell _ _) hcn (by have := HBB.out.2.2.2.2; unfold maxLen; omega) (by have := HBB.out.2.2.2.2; omega) (by have := HBB.out.2.2.2.1; simp; omega) ?_)
  intro v6 w6 hown6 hgrow6
  rw [← hW1] at hgrow6
  have hown6 : w6.ownsRow (w.heap.size + 2) 3 1 v6 s0.2.length (s0.2.map (Value.int .i64)) := by simpa using hown6
  obtain ⟨B6, B12, hb1, hsz, hslen⟩ := HBB.out
  obtain ⟨gc, cc, rfl, hrow⟩ := row_of_own hown6 (by intro h; rw [h] at hslen; simp at hslen)
  replace hrow : RowI w6 (w.heap.size + 2) gc cc s0.2 := hrow
  have C6 := (B6.alloc (.cells #[] 3)).kept hgrow6 (by show some w.heap.size ≠ some (w.heap.size + 1 + 1); simp; omega)
  have C12 := (B12.alloc (.cells #[] 3)).kept hgrow6 (by show some (w.heap.size + 1) ≠ some (w.heap.size + 1 + 1); simp)
  have L6 : Below w.heap.size w w6 := below_app (w := w) (below_alloc hb1 _) hgrow6 (ownsRow_mono hown0 (by omega))
  have hc1 : w6.cell? ⟨w.heap.size, 1, none⟩ = some (.slice ac s0.2.length cc0) := C6.cell 1
  have hf := fun j => C6.free j
  have hlt := hrow.lt
  have HM : Hid (∀ W2, W2 = w6.setCell ⟨w.heap.size, 1, none⟩ (.slice (some ⟨gc, 0, none⟩) s0.2.length cc) → StM w s0.1 s0.2 gc cc W2) := by
    refine Lib.hid ?_
    rintro W2 rfl
    exact ⟨C6.set 1 _, C12.other 1 (by omega) _, hrow.other 1 (by omega) _, L6.setCell (Nat.le_refl _) _⟩
  clear hown6 hown0 hgrow6 hrow C6 C12 L6 B6 B12 hb1 hsz hslen hxv HBB e1 hW1 hlt hi hz0 hz1 hz2
  go_wp2
  obtain ⟨W2, hW2⟩ : ∃ W2, W2 = w6.setCell ⟨w.heap.size, 1, none⟩ (.slice (some ⟨gc, 0, none⟩) s0.2.length cc) := ⟨_, rfl⟩
  have M0 := HM.out W2 hW2
  rw [← hW2]
  clear hW2 HM hc1 hf
  have HD : Hid (∀ wx p, p ≤ l.length → Below w.heap.size w wx → Calls Try.prog 37 #[.slice al l.length cl, .slice aq ts.length cq, .slice ad done.length cd, .int .i64 (p : Nat)] wx fun e w' => e = .returned (.int .i64 (frontOf l ts done p)) ∧ Below wx.heap.size wx w') := Lib.hid fun wx p hp hb => head_any l ts done wx aq ad al cq cd cl p (hq.below hb) (hx.below hb) (hd.below hb) hdl.out hc (by omega) hcd hcq (by omega) hp
  have HX := Lib.hid hx
  clear hq hx hd
  go_loopg [] ((cfgOf l cs Q).meas (frontsOf l ts done) s0) (fun k wr => ∃ (s : St) (gc cc : Nat), StM w s.1 s.2 gc cc wr ∧ (cfgOf l cs Q).In s ∧ (cfgOf l cs Q).meas (frontsOf l ts done) s = k ∧ (cfgOf l cs Q).go (frontsOf l ts done) s = (cfgOf l cs Q).go (frontsOf l ts done) s0)
  case atStart => exact ⟨s0, gc, cc, M0, hin, rfl, rfl⟩
  case round =>
    clear M0
    obtain ⟨s, gc, cc, M, hs, hn, hgo⟩ := hrel
    have hsl : s.2.length = l.length + 1 := hs.len
    have hst : s.1 ≤ l.length := hs.turn
    have hfl := frontsOf_len l ts done
    have ht0 : (0 : Int) ≤ (s.1 : Int) := by omega
    have ht1 : (s.1 : Int) < (s.2.length : Int) := by omega
    have ht2 : (s.1 : Int) < (l.length : Int) + 1 := by omega
    have hst0 : (cfgOf l cs Q).stops (frontsOf l ts done) s ↔ 0 ≤ (frontsOf l ts done).getD s.1 (-1) ∧ cs.getD ((frontsOf l ts done).getD s.1 (-1)).toNat 0 ≤ s.2.getD s.1 0 := Iff.rfl
    have hfr := frontOf_is l ts done s.1
    have hfa := frontsOf_at l ts done hst
    rw [hfa] at hst0
    obtain ⟨k1, k2, _, _, _, y1, y3⟩ := M.facts (by omega)
    replace hn := Lib.hid hn
    replace hgo := Lib.hid hgo
    replace hsl := Lib.hid hsl
    replace hfl := Lib.hid hfl
    have HM := Lib.hid M
    have HD1 := Lib.hid (HD.out wr s.1 hst M.low)
    clear M
    go_wp2_with fail
    refine HD1.out.mono ?_
    rintro e wv ⟨rfl, hbv⟩
    have M := HM.out.below hbv
    obtain ⟨c1, c2, c3, z1, z3, _, _⟩ := M.facts (by have := hsl.out; omega)
    have hlow := M.low
    replace HM := Lib.hid M
    clear M hbv HD1 k1 k2
    by_cases hstp : (cfgOf l cs Q).stops (frontsOf l ts done) s
    case pos =>
      have hgo2 := Lib.hid ((Cfg.go_stops hstp).symm.trans hgo.out)
      obtain ⟨hf0, hco⟩ := hst0.1 hstp
      have hfl2 := hfr.lt hf0
      obtain ⟨i, hi⟩ : ∃ i : Nat, frontOf l ts done s.1 = i := ⟨_, (Int.toNat_of_nonneg hf0).symm⟩
      have HT : Hid ((cfgOf l cs Q).took (frontsOf l ts done) s = ((s.1, s.2.set s.1 (s.2.getD s.1 0 - cs.getD i 0)), i)) := by
        refine Lib.hid ?_
        unfold Cfg.took
        rw [hfa, hi]
        rfl
      rw [hi] at hco hfl2 ⊢
      simp only [Int.toNat_natCast] at hco
      have hilt : i < cs.length := by have := g.len; omega
      obtain ⟨xc, rfl, hcc⟩ := (hcs.below hlow).at hilt
      have hcost : 0 ≤ cs.getD i 0 ∧ cs.getD i 0 ≤ 1000000 := ok.cost i
      have hcp := hs.pos s.1
      have hch := hs.here
      have q1 : decide ((i : Int) ≥ 0) = true := decide_eq_true (by omega)
      have q2 : decide (cs.getD i 0 ≤ s.2.getD s.1 0) = true := decide_eq_true hco
      have q3 : (0 : Int) ≤ (i : Int) := by omega
      have q4 : (i : Int) < (cs.length : Int) := by omega
      obtain ⟨C, hC⟩ : ∃ C, cs.getD i 0 = C := ⟨_, rfl⟩
      obtain ⟨D, hD⟩ : ∃ D, s.2.getD s.1 0 = D := ⟨_, rfl⟩
      rw [hC] at hco hcost hcc q2 HT
      rw [hD] at hco hcp hch q2 HT c3
      have m1 : IntKind.i64.wrap (D - C) = D - C := IntWalk.i64_in _ (by omega)
      have KK : Hid (∀ wx, Below wv.heap.size wv wx → Below wv.heap.size wv wx ∧ wx.cell? ⟨w.heap.size, 0, none⟩ = some (.int .i64 s.1) ∧ wx.cell? ⟨w.heap.size, 1, none⟩ = some (.slice (some ⟨gc, 0, none⟩) s.2.length cc) ∧ wx.cell? ⟨gc, s.1, none⟩ = some (.int .i64 D) ∧ wx.cell? (xc.add i) = some (.int .i64 C) ∧ (∀ j, wx.frozen? ⟨gc, j, none⟩ = false)) := Lib.hid fun wx hb => ⟨hb, below_keep hb c1, below_keep hb c2, below_keep hb c3, below_keep hb hcc, fun j => (HM.out.below hb).cr.free j⟩
      clear hst0 hfr hf0 hstp hfa hlow hfl2 hilt hcost hcp hch hco hi hcr hcs hC hD ok g
      go_wp2
      go_quiet (fail)
      go_wp2
      obtain ⟨W2, hW2⟩ : ∃ W2, W2 = wv.drewN nq := ⟨_, rfl⟩
      have hb2 : Below wv.heap.size wv W2 := by rw [hW2]; exact below_drewN (Below.refl _ _) _
      have M2 := Lib.hid (HM.out.below hb2)
      have S0 := KK.out W2.drew hb2.drew
      rw [← hW2]
      have HW := Lib.hid hW2
      clear hW2 c1 c2 c3 z1 z3 hcc
      refine start_ (n := 17) (S := (fun wx => Below wv.heap.size wv wx ∧ wx.cell? ⟨w.heap.size, 0, none⟩ = some (.int .i64 s.1) ∧ wx.cell? ⟨w.heap.size, 1, none⟩ = some (.slice (some ⟨gc, 0, none⟩) s.2.length cc) ∧ wx.cell? ⟨gc, s.1, none⟩ = some (.int .i64 D) ∧ wx.cell? (xc.add i) = some (.int .i64 C) ∧ (∀ j, wx.frozen? ⟨gc, j, none⟩ = false))) (ds := [16]) #[false, false, false, false, false, false, false, false, false, false, false, false, false, false, false, false, false] (by kernel_rfl) rfl rfl S0 (fun hHeld => ?_)
      refine pure_ (i := 0) (N := some 41) (v := ?_) (a' := ?_) #[true, false, false, false, false, false, false, false, false, false, false, false, false, false, false, false, false] rfl rfl (by kernel_rfl) (fun _ _ _ h => h) (Or.inl ⟨by rfl, ?_⟩) ?_ ?_
      rotate_left
      · intro w'
        go_simp
        try with_reducible rfl
      rotate_left
      · simp only [Act.put, List.setIfInBounds_toArray, List.set_cons_zero, List.set_cons_succ]
        rfl
      refine take_ (i := 1) (N := some 42) (v := ?_) (a' := ?_) #[true, true, false, false, false, false, false, false, false, false, false, false, false, false, false, false, false] rfl rfl (by kernel_rfl) (fun _ _ _ h => h) (Or.inl ⟨by rfl, ?_⟩) hHeld ?_ ?_
      rotate_left
      · rintro w' ⟨s0, s1, s2, s3, s4, s5⟩
        go_simp
        try with_reducible rfl
      rotate_left
      · simp only [Act.put, List.setIfInBounds_toArray, List.set_cons_zero, List.set_cons_succ]
        rfl
      refine pure_ (i := 2) (N := some 43) (v := ?_) (a' := ?_) #[true, true, true, false, false, false, false, false, false, false, false, false, false, false, false, false, false] rfl rfl (by kernel_rfl) (fun _ _ _ h => h) (Or.inl ⟨by rfl, ?_⟩) ?_ ?_
      rotate_left
      · intro w'
        go_simp
        try with_reducible rfl
      rotate_left
      · simp only [Act.put, List.setIfInBounds_toArray, List.set_cons_zero, List.set_cons_succ]
        rfl
      refine take_ (i := 3) (N := some 44) (v := ?_) (a' := ?_) #[true, true, true, true, false, false, false, false, false, false, false, false, false, false, false, false, false] rfl rfl (by kernel_rfl) (fun _ _ _ h => h) (Or.inl ⟨by rfl, ?_⟩) hHeld ?_ ?_
      rotate_left
      · rintro w' ⟨s0, s1, s2, s3, s4, s5⟩
        go_simp
        try with_reducible rfl
      rotate_left
      · simp only [Act.put, List.setIfInBounds_toArray, List.set_cons_zero, List.set_cons_succ]
        rfl
      refine pure_ (i := 4) (N := some 45) (v := ?_) (a' := ?_) #[true, true, true, true, true, false, false, false, false, false, false, false, false, false, false, false, false] rfl rfl (by kernel_rfl) (fun _ _ _ h => h) (Or.inl ⟨by rfl, ?_⟩) ?_ ?_
      rotate_left
      · intro w'
        go_simp
        try with_reducible rfl
      rotate_left
      · simp only [Act.put, List.setIfInBounds_toArray, List.set_cons_zero, List.set_cons_succ]
        rfl
      refine take_ (i := 5) (N := some 46) (v := ?_) (a' := ?_) #[true, true, true, true, true, true, false, false, false, false, false, false, false, false, false, false, false] rfl rfl (by kernel_rfl) (fun _ _ _ h => h) (Or.inl ⟨by rfl, ?_⟩) hHeld ?_ ?_
      rotate_left
      · rintro w' ⟨s0, s1, s2, s3, s4, s5⟩
        go_simp
        try with_reducible rfl
      rotate_left
      · simp only [Act.put, List.setIfInBounds_toArray, List.set_cons_zero, List.set_cons_succ]
        rfl
      refine pure_ (i := 6) (N := some 47) (v := ?_) (a' := ?_) #[true, true, true, true, true, true, true, false, false, false, false, false, false, false, false, false, false] rfl rfl (by kernel_rfl) (fun _ _ _ h => h) (Or.inl ⟨by rfl, ?_⟩) ?_ ?_
      rotate_left
      · intro w'
        go_simp
        try with_reducible rfl
      rotate_left
      · simp only [Act.put, List.setIfInBounds_toArray, List.set_cons_zero, List.set_cons_succ]
        rfl
      refine take_ (i := 7) (N := some 48) (v := ?_) (a' := ?_) #[true, true, true, true, true, true, true, true, false, false, false, false, false, false, false, false, false] rfl rfl (by kernel_rfl) (fun _ _ _ h => h) (Or.inl ⟨by rfl, ?_⟩) hHeld ?_ ?_
      rotate_left
      · rintro w' ⟨s0, s1, s2, s3, s4, s5⟩
        go_simp
        try with_reducible rfl
      rotate_left
      · simp only [Act.put, List.setIfInBounds_toArray, List.set_cons_zero, List.set_cons_succ]
        rfl
      refine pure_ (i := 8) (N := some 49) (v := ?_) (a' := ?_) #[true, true, true, true, true, true, true, true, true, false, false, false, false, false, false, false, false] rfl rfl (by kernel_rfl) (fun _ _ _ h => h) (Or.inl ⟨by rfl, ?_⟩) ?_ ?_
      rotate_left
      · intro w'
        go_simp
        try with_reducible rfl
      rotate_left
      · simp only [Act.put, List.setIfInBounds_toArray, List.set_cons_zero, List.set_cons_succ]
        rfl
      refine take_ (i := 9) (N := some 50) (v := ?_) (a' := ?_) #[true, true, true, true, true, true, true, true, true, true, false, false, false, false, false, false, false] rfl rfl (by kernel_rfl) (fun _ _ _ h => h) (Or.inl ⟨by rfl, ?_⟩) hHeld ?_ ?_
      rotate_left
      · rintro w' ⟨s0, s1, s2, s3, s4, s5⟩
        go_simp
        try with_reducible rfl
      rotate_left
      · simp only [Act.put, List.setIfInBounds_toArray, List.set_cons_zero, List.set_cons_succ]
        rfl
      refine pure_ (i := 10) (N := some 51) (v := ?_) (a' := ?_) #[true, true, true, true, true, true, true, true, true, true, true, false, false, false, false, false, false] rfl rfl (by kernel_rfl) (fun _ _ _ h => h) (Or.inl ⟨by rfl, ?_⟩) ?_ ?_
      rotate_left
      · intro w'
        go_simp
        try with_reducible rfl
      rotate_left
      · simp only [Act.put, List.setIfInBounds_toArray, List.set_cons_zero, List.set_cons_succ]
        rfl
      refine pure_ (i := 11) (N := some 52) (v := ?_) (a' := ?_) #[true, true, true, true, true, true, true, true, true, true, true, true, false, false, false, false, false] rfl rfl (by kernel_rfl) (fun _ _ _ h => h) (Or.inl ⟨by rfl, ?_⟩) ?_ ?_
      rotate_left
      · intro w'
        go_simp
        try with_reducible rfl
      rotate_left
      · simp only [Act.put, List.setIfInBounds_toArray, List.set_cons_zero, List.set_cons_succ]
        rfl
      refine pure_ (i := 12) (N := some 53) (v := ?_) (a' := ?_) #[true, true, true, true, true, true, true, true, true, true, true, true, true, false, false, false, false] rfl rfl (by kernel_rfl) (fun _ _ _ h => h) (Or.inl ⟨by rfl, ?_⟩) ?_ ?_
      rotate_left
      · intro w'
        go_simp
        try with_reducible rfl
      rotate_left
      · simp only [Act.put, List.setIfInBounds_toArray, List.set_cons_zero, List.set_cons_succ]
        rfl
      refine take_ (i := 13) (N := some 54) (v := ?_) (a' := ?_) #[true, true, true, true, true, true, true, true, true, true, true, true, true, true, false, false, false] rfl rfl (by kernel_rfl) (fun _ _ _ h => h) (Or.inl ⟨by rfl, ?_⟩) hHeld ?_ ?_
      rotate_left
      · rintro w' ⟨s0, s1, s2, s3, s4, s5⟩
        go_simp
        try with_reducible rfl
      rotate_left
      · simp only [Act.put, List.setIfInBounds_toArray, List.set_cons_zero, List.set_cons_succ]
        rfl
      refine pure_ (i := 14) (N := some 55) (v := ?_) (a' := ?_) #[true, true, true, true, true, true, true, true, true, true, true, true, true, true, true, false, false] rfl rfl (by kernel_rfl) (fun _ _ _ h => h) (Or.inl ⟨by rfl, ?_⟩) ?_ ?_
      rotate_left
      · intro w'
        go_simp
        try with_reducible rfl
      rotate_left
      · simp only [Act.put, List.setIfInBounds_toArray, List.set_cons_zero, List.set_cons_succ]
        rfl
      refine pure_ (i := 15) (N := some 56) (v := ?_) (a' := ?_) #[true, true, true, true, true, true, true, true, true, true, true, true, true, true, true, true, false] rfl rfl (by kernel_rfl) (fun _ _ _ h => h) (Or.inl ⟨by rfl, ?_⟩) ?_ ?_
      rotate_left
      · intro w'
        go_simp
        try with_reducible rfl
      rotate_left
      · simp only [Act.put, List.setIfInBounds_toArray, List.set_cons_zero, List.set_cons_succ]
        rfl
      refine last_ (i := 16) (N := none) #[true, true, true, true, true, true, true, true, true, true, true, true, true, true, true, true, true] rfl rfl (by kernel_rfl) (by decide) (fun K hK => ?_)
      go_simp
      refine hK.out _ _ ?_
      clear hK K
      try simp only [Act.put, List.setIfInBounds_toArray, List.set_cons_zero, List.set_cons_succ]
      refine done_ (by kernel_rfl) ?_
      have M3 : StM w s.1 (s.2.set s.1 (D - C)) gc cc (W2.setCell ⟨gc, s.1, none⟩ (.int .i64 (D - C))).drew := (M2.out.setCr s.1 (D - C)).drewN 1
      obtain ⟨W3, hW3⟩ : ∃ W3, W3 = (W2.setCell ⟨gc, s.1, none⟩ (.int .i64 (D - C))).drew := ⟨_, rfl⟩
      rw [← hW3] at M3 ⊢
      clear hW3 S0 hHeld
      have d1 : W3.cell? ⟨w.heap.size, 0, none⟩ = some (.int .i64 s.1) := M3.b6.cell 0
      have d2 : W3.cell? ⟨w.heap.size, 1, none⟩ = some (.slice (some ⟨gc, 0, none⟩) (s.2.set s.1 (D - C)).length cc) := M3.b6.cell 1
      have d3 : W3.cell? ⟨w.heap.size + 1, 0, none⟩ = some (.int .i64 0) := M3.b12.cell 0
      have d4 : W3.cell? ⟨w.heap.size + 1, 1, none⟩ = some (.slice none 0 0) := M3.b12.cell 1
      have d5 := fun j => M3.b12.free j
      have HM3 := Lib.hid M3
      clear M3
      generalize s.2.set s.1 (D - C) = cr at *
      go_wp2
      have B4 := (HM3.out.b12.set 0 (.int .i64 s.1)).set 1 (.slice (some ⟨gc, 0, none⟩) cr.length cc)
      have R4 := (HM3.out.cr.other 0 (by omega : gc ≠ w.heap.size + 1) (.int .i64 s.1)).other 1 (by omega : gc ≠ w.heap.size + 1) (.slice (some ⟨gc, 0, none⟩) cr.length cc)
      have L4 := (HM3.out.low.setCell (p := ⟨w.heap.size + 1, 0, none⟩) (by show w.heap.size ≤ w.heap.size + 1; omega) (.int .i64 s.1)).setCell (p := ⟨w.heap.size + 1, 1, none⟩) (by show w.heap.size ≤ w.heap.size + 1; omega) (.slice (some ⟨gc, 0, none⟩) cr.length cc)
      obtain ⟨W4, hW4⟩ : ∃ W4, W4 = (W3.setCell ⟨w.heap.size + 1, 0, none⟩ (.int .i64 s.1)).setCell ⟨w.heap.size + 1, 1, none⟩ (.slice (some ⟨gc, 0, none⟩) cr.length cc) := ⟨_, rfl⟩
      rw [← hW4] at B4 R4 L4 ⊢
      have e0 : W4.cell? ⟨w.heap.size + 1, 0, none⟩ = some (.int .i64 s.1) := B4.cell 0
      have e1 : W4.cell? ⟨w.heap.size + 1, 1, none⟩ = some (.slice (some ⟨gc, 0, none⟩) cr.length cc) := B4.cell 1
      refine bodyPost_ret (v := .tuple #[.agg #[.int .i64 s.1, .slice (some ⟨gc, 0, none⟩) cr.length cc], .int .i64 i]) (by simp [results, Try.results29, Try.f29, go_sem, e0, e1]) rfl ?_
      exact ⟨((s.1, cr), i), gc, cc, HT.out.symm.trans hgo2.out, rfl, R4.mono (by omega), L4⟩
    have ht'le := (cfgOf l cs Q).nextT_le s
    obtain ⟨t', ht'⟩ : ∃ t', (cfgOf l cs Q).nextT s = t' := ⟨_, rfl⟩
    have hti : ((s.1 : Int) + 1) % ((l.length : Int) + 1) = (t' : Int) := by rw [← ht']; rfl
    rw [ht'] at ht'le
    have ht'le : t' ≤ l.length := ht'le
    have hNI := Cfg.next_in ok hs hstp
    have hNL := Cfg.meas_next ok hs hstp
    have hNG := (Cfg.go_next ok hs hstp).symm.trans hgo.out
    have hcm := Cfg.clear_most ok hs hstp t'
    have hwt := ok.w t' ht'le
    have hfa2 := frontsOf_at l ts done ht'le
    have hNX : (cfgOf l cs Q).next (frontsOf l ts done) s = (t', if 0 ≤ frontOf l ts done t' then ((cfgOf l cs Q).clear (frontsOf l ts done) s).set t' (((cfgOf l cs Q).clear (frontsOf l ts done) s).getD t' 0 + Q * (cfgOf l cs Q).wt t') else (cfgOf l cs Q).clear (frontsOf l ts done) s) := by
      unfold Cfg.next
      rw [ht', hfa2]
      rfl
    have t0 : (0 : Int) ≤ (t' : Int) := by omega
    have t1 : (t' : Int) < (l.length : Int) + 1 := by omega
    have t2 : (t' : Int) < (s.2.length : Int) := by have := hsl.out; omega
    have hclen := (cfgOf l cs Q).clear_len (frontsOf l ts done) s
    have hWT := rweight_any l al cl t' cs Q
    by_cases hneg : frontOf l ts done s.1 < 0
    case pos =>
      have hCL : (cfgOf l cs Q).clear (frontsOf l ts done) s = s.2.set s.1 0 := by
        unfold Cfg.clear
        rw [hfa, if_pos hneg]
      have q1 : decide (frontOf l ts done s.1 ≥ 0) = false := decide_eq_false (by omega)
      have q2 : decide (frontOf l ts done s.1 < 0) = true := decide_eq_true hneg
      obtain ⟨f, hf⟩ : ∃ f, frontOf l ts done s.1 = f := ⟨_, rfl⟩
      rw [hf] at q1 q2 ⊢
      rw [hCL] at hNX hcm hclen
      clear hf hneg hCL hst0 hfr hfa
      by_cases hn2 : 0 ≤ frontOf l ts done t'
      case neg =>
        rw [if_neg hn2] at hNX
        have HD2 : Hid (∀ wx, Below w.heap.size w wx → Calls Try.prog 37 #[.slice al l.length cl, .slice aq ts.length cq, .slice ad done.length cd, .int .i64 t'] wx fun e w' => e = .returned (.int .i64 (frontOf l ts done t')) ∧ Below wx.heap.size wx w') := Lib.hid fun wx hb => HD.out wx t' ht'le hb
        have q6 : decide (frontOf l ts done t' ≥ 0) = false := decide_eq_false (by omega)
        obtain ⟨f', hf'⟩ : ∃ f', frontOf l ts done t' = f' := ⟨_, rfl⟩
        rw [hf'] at q6 HD2
        rw [hNX] at hNI hNL hNG
        have HN := Lib.hid (And.intro hNI (And.intro hNL hNG))
        clear hNX hn2 hf' hNI hNL hNG hwt hfa2 hcm ht' hlow hcr hcs ok g hWT hclen hstp ht'le
        go_wp2
        go_quiet (fail)
        go_wp2_with fail
        have M2 : StM w t' (s.2.set s.1 0) gc cc (((wv.drewN nq).setCell ⟨gc, s.1, none⟩ (.int .i64 0)).setCell ⟨w.heap.size, 0, none⟩ (.int .i64 t')) := ((HM.out.drewN nq).setCr s.1 0).setT t'
        refine (HD2.out _ M2.low).mono ?_
        rintro e w3 ⟨rfl, hb3⟩
        have HM3 := Lib.hid (M2.below hb3)
        clear M2 hb3
        go_wp2
        go_roundg ((cfgOf l cs Q).meas (frontsOf l ts done) (t', s.2.set s.1 0))
        case measure => rw [← hn.out]; exact HN.out.2.1
        case rel => exact ⟨(t', s.2.set s.1 0), gc, cc, HM3.out, HN.out.1, rfl, HN.out.2.2⟩
      case pos =>
        rw [if_pos hn2] at hNX
        have HD2 : Hid (∀ wx, Below w.heap.size w wx → Calls Try.prog 37 #[.slice al l.length cl, .slice aq ts.length cq, .slice ad done.length cd, .int .i64 t'] wx fun e w' => e = .returned (.int .i64 (frontOf l ts done t')) ∧ Below wx.heap.size wx w') := Lib.hid fun wx hb => HD.out wx t' ht'le hb
        have q6 : decide (frontOf l ts done t' ≥ 0) = true := decide_eq_true (by omega)
        obtain ⟨f', hf'⟩ : ∃ f', frontOf l ts done t' = f' := ⟨_, rfl⟩
        rw [hf'] at q6 HD2
        rw [hNX] at hNI hNL hNG
        obtain ⟨wv', hwv⟩ : ∃ wv', (cfgOf l cs Q).wt t' = wv' := ⟨_, rfl⟩
        obtain ⟨D', hD'⟩ : ∃ D', (s.2.set s.1 0).getD t' 0 = D' := ⟨_, rfl⟩
        rw [hwv] at hwt hWT hNI hNL hNG
        rw [hD'] at hcm hNI hNL hNG
        have hmp := mul_pos_le g.q hwt
        have m1 : IntKind.i64.wrap (Q * wv') = Q * wv' := IntWalk.i64_in _ (by omega)
        have m2 : IntKind.i64.wrap (D' + Q * wv') = D' + Q * wv' := IntWalk.i64_in _ (by omega)
        have HN := Lib.hid (And.intro hNI (And.intro hNL hNG))
        have HDD := Lib.hid hD'
        have I0 : Hid (∀ wx, Shs wx al l → Calls Try.prog 38 #[.slice al l.length cl, .int .i64 t'] wx fun e w' => e = .returned (.int .i64 wv') ∧ w' = wx) := Lib.hid fun wx h => hWT wx h hc (by omega) ht'le
        clear hNX hn2 hf' hNI hNL hNG hwt hfa2 hcm ht' hlow hcr hcs ok g hWT hclen hstp ht'le hmp hwv hD'
        go_wp2
        go_quiet (fail)
        go_wp2_with fail
        have M1 : StM w t' (s.2.set s.1 0) gc cc (((wv.drewN nq).setCell ⟨gc, s.1, none⟩ (.int .i64 0)).setCell ⟨w.heap.size, 0, none⟩ (.int .i64 t')) := ((HM.out.drewN nq).setCr s.1 0).setT t'
        refine (HD2.out _ M1.low).mono ?_
        rintro e W2 ⟨rfl, hb3⟩
        have M2 := M1.below hb3
        have hX2 := HX.out.below M2.low
        have HL : (s.2.set s.1 0).length = s.2.length := by simp
        have HD := HDD.out
        clear c1 c2 c3 z1 z3 M1 hb3
        have p3 := M2.cr.at (j := t') (by have := hsl.out; omega) 0
        rw [HD] at p3
        have p2 : W2.cell? ⟨w.heap.size, 1, none⟩ = some (.slice (some ⟨gc, 0, none⟩) (s.2.set s.1 0).length cc) := M2.b6.cell 1
        have p1 : W2.cell? ⟨w.heap.size, 0, none⟩ = some (.int .i64 t') := M2.b6.cell 0
        try simp only [List.length_set] at p2
        have KK : Hid (∀ wx, Below W2.heap.size W2 wx → Below W2.heap.size W2 wx ∧ wx.cell? ⟨w.heap.size, 0, none⟩ = some (.int .i64 t') ∧ wx.cell? ⟨w.heap.size, 1, none⟩ = some (.slice (some ⟨gc, 0, none⟩) s.2.length cc) ∧ wx.cell? ⟨gc, t', none⟩ = some (.int .i64 D') ∧ (∀ j, wx.frozen? ⟨gc, j, none⟩ = false)) := Lib.hid fun wx hb => ⟨hb, below_keep hb p1, below_keep hb p2, below_keep hb p3, fun j => (M2.below hb).cr.free j⟩
        have I1 : Hid (∀ wx, Below W2.heap.size W2 wx → Calls Try.prog 38 #[.slice al l.length cl, .int .i64 t'] wx fun e w' => e = .returned (.int .i64 wv') ∧ Below W2.heap.size W2 w') := Lib.hid fun wx hb => (I0.out wx (hX2.below hb)).mono fun e w' h => ⟨h.1, by rw [h.2]; exact hb⟩
        have S0 := KK.out W2.drew (Below.refl _ _).drew
        have HM2 := Lib.hid M2
        clear p1 p2 p3 M2 hX2 HL HD
        go_wp2
        refine start_ (n := 19) (S := (fun wx => Below W2.heap.size W2 wx ∧ wx.cell? ⟨w.heap.size, 0, none⟩ = some (.int .i64 t') ∧ wx.cell? ⟨w.heap.size, 1, none⟩ = some (.slice (some ⟨gc, 0, none⟩) s.2.length cc) ∧ wx.cell? ⟨gc, t', none⟩ = some (.int .i64 D') ∧ (∀ j, wx.frozen? ⟨gc, j, none⟩ = false))) (ds := [18]) #[false, false, false, false, false, false, false, false, false, false, false, false, false, false, false, false, false, false, false] (by kernel_rfl) rfl rfl S0 (fun hHeld => ?_)
        refine pure_ (i := 0) (N := some 81) (v := ?_) (a' := ?_) #[true, false, false, false, false, false, false, false, false, false, false, false, false, false, false, false, false, false, false] rfl rfl (by kernel_rfl) (fun _ _ _ h => h) (Or.inl ⟨by rfl, ?_⟩) ?_ ?_
        rotate_left
        · intro w'
          go_simp
          try with_reducible rfl
        rotate_left
        · simp only [Act.put, List.setIfInBounds_toArray, List.set_cons_zero, List.set_cons_succ]
          rfl
        refine take_ (i := 1) (N := some 82) (v := ?_) (a' := ?_) #[true, true, false, false, false, false, false, false, false, false, false, false, false, false, false, false, false, false, false] rfl rfl (by kernel_rfl) (fun _ _ _ h => h) (Or.inl ⟨by rfl, ?_⟩) hHeld ?_ ?_
        rotate_left
        · rintro w' ⟨s0, s1, s2, s3, s4⟩
          go_simp
          try with_reducible rfl
        rotate_left
        · simp only [Act.put, List.setIfInBounds_toArray, List.set_cons_zero, List.set_cons_succ]
          rfl
        refine pure_ (i := 2) (N := some 83) (v := ?_) (a' := ?_) #[true, true, true, false, false, false, false, false, false, false, false, false, false, false, false, false, false, false, false] rfl rfl (by kernel_rfl) (fun _ _ _ h => h) (Or.inl ⟨by rfl, ?_⟩) ?_ ?_
        rotate_left
        · intro w'
          go_simp
          try with_reducible rfl
        rotate_left
        · simp only [Act.put, List.setIfInBounds_toArray, List.set_cons_zero, List.set_cons_succ]
          rfl
        refine take_ (i := 3) (N := some 84) (v := ?_) (a' := ?_) #[true, true, true, true, false, false, false, false, false, false, false, false, false, false, false, false, false, false, false] rfl rfl (by kernel_rfl) (fun _ _ _ h => h) (Or.inl ⟨by rfl, ?_⟩) hHeld ?_ ?_
        rotate_left
        · rintro w' ⟨s0, s1, s2, s3, s4⟩
          go_simp
          try with_reducible rfl
        rotate_left
        · simp only [Act.put, List.setIfInBounds_toArray, List.set_cons_zero, List.set_cons_succ]
          rfl
        refine pure_ (i := 4) (N := some 85) (v := ?_) (a' := ?_) #[true, true, true, true, true, false, false, false, false, false, false, false, false, false, false, false, false, false, false] rfl rfl (by kernel_rfl) (fun _ _ _ h => h) (Or.inl ⟨by rfl, ?_⟩) ?_ ?_
        rotate_left
        · intro w'
          go_simp
          try with_reducible rfl
        rotate_left
        · simp only [Act.put, List.setIfInBounds_toArray, List.set_cons_zero, List.set_cons_succ]
          rfl
        refine take_ (i := 5) (N := some 86) (v := ?_) (a' := ?_) #[true, true, true, true, true, true, false, false, false, false, false, false, false, false, false, false, false, false, false] rfl rfl (by kernel_rfl) (fun _ _ _ h => h) (Or.inl ⟨by rfl, ?_⟩) hHeld ?_ ?_
        rotate_left
        · rintro w' ⟨s0, s1, s2, s3, s4⟩
          go_simp
          try with_reducible rfl
        rotate_left
        · simp only [Act.put, List.setIfInBounds_toArray, List.set_cons_zero, List.set_cons_succ]
          rfl
        refine pure_ (i := 6) (N := some 87) (v := ?_) (a' := ?_) #[true, true, true, true, true, true, true, false, false, false, false, false, false, false, false, false, false, false, false] rfl rfl (by kernel_rfl) (fun _ _ _ h => h) (Or.inl ⟨by rfl, ?_⟩) ?_ ?_
        rotate_left
        · intro w'
          go_simp
          try with_reducible rfl
        rotate_left
        · simp only [Act.put, List.setIfInBounds_toArray, List.set_cons_zero, List.set_cons_succ]
          rfl
        refine take_ (i := 7) (N := some 88) (v := ?_) (a' := ?_) #[true, true, true, true, true, true, true, true, false, false, false, false, false, false, false, false, false, false, false] rfl rfl (by kernel_rfl) (fun _ _ _ h => h) (Or.inl ⟨by rfl, ?_⟩) hHeld ?_ ?_
        rotate_left
        · rintro w' ⟨s0, s1, s2, s3, s4⟩
          go_simp
          try with_reducible rfl
        rotate_left
        · simp only [Act.put, List.setIfInBounds_toArray, List.set_cons_zero, List.set_cons_succ]
          rfl
        refine pure_ (i := 8) (N := some 89) (v := ?_) (a' := ?_) #[true, true, true, true, true, true, true, true, true, false, false, false, false, false, false, false, false, false, false] rfl rfl (by kernel_rfl) (fun _ _ _ h => h) (Or.inl ⟨by rfl, ?_⟩) ?_ ?_
        rotate_left
        · intro w'
          go_simp
          try with_reducible rfl
        rotate_left
        · simp only [Act.put, List.setIfInBounds_toArray, List.set_cons_zero, List.set_cons_succ]
          rfl
        refine take_ (i := 9) (N := some 90) (v := ?_) (a' := ?_) #[true, true, true, true, true, true, true, true, true, true, false, false, false, false, false, false, false, false, false] rfl rfl (by kernel_rfl) (fun _ _ _ h => h) (Or.inl ⟨by rfl, ?_⟩) hHeld ?_ ?_
        rotate_left
        · rintro w' ⟨s0, s1, s2, s3, s4⟩
          go_simp
          try with_reducible rfl
        rotate_left
        · simp only [Act.put, List.setIfInBounds_toArray, List.set_cons_zero, List.set_cons_succ]
          rfl
        refine pure_ (i := 10) (N := some 91) (v := ?_) (a' := ?_) #[true, true, true, true, true, true, true, true, true, true, true, false, false, false, false, false, false, false, false] rfl rfl (by kernel_rfl) (fun _ _ _ h => h) (Or.inl ⟨by rfl, ?_⟩) ?_ ?_
        rotate_left
        · intro w'
          go_simp
          try with_reducible rfl
        rotate_left
        · simp only [Act.put, List.setIfInBounds_toArray, List.set_cons_zero, List.set_cons_succ]
          rfl
        refine pure_ (i := 11) (N := some 92) (v := ?_) (a' := ?_) #[true, true, true, true, true, true, true, true, true, true, true, true, false, false, false, false, false, false, false] rfl rfl (by kernel_rfl) (fun _ _ _ h => h) (Or.inl ⟨by rfl, ?_⟩) ?_ ?_
        rotate_left
        · intro w'
          go_simp
          try with_reducible rfl
        rotate_left
        · simp only [Act.put, List.setIfInBounds_toArray, List.set_cons_zero, List.set_cons_succ]
          rfl
        refine pure_ (i := 12) (N := some 93) (v := ?_) (a' := ?_) #[true, true, true, true, true, true, true, true, true, true, true, true, true, false, false, false, false, false, false] rfl rfl (by kernel_rfl) (fun _ _ _ h => h) (Or.inl ⟨by rfl, ?_⟩) ?_ ?_
        rotate_left
        · intro w'
          go_simp
          try with_reducible rfl
        rotate_left
        · simp only [Act.put, List.setIfInBounds_toArray, List.set_cons_zero, List.set_cons_succ]
          rfl
        refine take_ (i := 13) (N := some 94) (v := ?_) (a' := ?_) #[true, true, true, true, true, true, true, true, true, true, true, true, true, true, false, false, false, false, false] rfl rfl (by kernel_rfl) (fun _ _ _ h => h) (Or.inl ⟨by rfl, ?_⟩) hHeld ?_ ?_
        rotate_left
        · rintro w' ⟨s0, s1, s2, s3, s4⟩
          go_simp
          try with_reducible rfl
        rotate_left
        · simp only [Act.put, List.setIfInBounds_toArray, List.set_cons_zero, List.set_cons_succ]
          rfl
        refine one_ (i := 14) (N := some 95) #[true, true, true, true, true, true, true, true, true, true, true, true, true, true, true, false, false, false, false] rfl rfl (by kernel_rfl) (by decide) (fun K hK => ?_)
        go_simp
        refine (I1.out _ hHeld.1).mono ?_
        rintro e w4 ⟨rfl, hb4⟩
        refine hK.out _ _ (KK.out _ hb4) (fun hHeld => ?_)
        clear hK K
        try simp only [Act.put, List.setIfInBounds_toArray, List.set_cons_zero, List.set_cons_succ]
        refine pure_ (i := 15) (N := some 96) (v := ?_) (a' := ?_) #[true, true, true, true, true, true, true, true, true, true, true, true, true, true, true, true, false, false, false] rfl rfl (by kernel_rfl) (fun _ _ _ h => h) (Or.inl ⟨by rfl, ?_⟩) ?_ ?_
        rotate_left
        · intro w'
          go_simp
          try with_reducible rfl
        rotate_left
        · simp only [Act.put, List.setIfInBounds_toArray, List.set_cons_zero, List.set_cons_succ]
          rfl
        refine pure_ (i := 16) (N := some 97) (v := ?_) (a' := ?_) #[true, true, true, true, true, true, true, true, true, true, true, true, true, true, true, true, true, false, false] rfl rfl (by kernel_rfl) (fun _ _ _ h => h) (Or.inl ⟨by rfl, ?_⟩) ?_ ?_
        rotate_left
        · intro w'
          go_simp
          try with_reducible rfl
        rotate_left
        · simp only [Act.put, List.setIfInBounds_toArray, List.set_cons_zero, List.set_cons_succ]
          rfl
        refine pure_ (i := 17) (N := some 98) (v := ?_) (a' := ?_) #[true, true, true, true, true, true, true, true, true, true, true, true, true, true, true, true, true, true, false] rfl rfl (by kernel_rfl) (fun _ _ _ h => h) (Or.inl ⟨by rfl, ?_⟩) ?_ ?_
        rotate_left
        · intro w'
          go_simp
          try with_reducible rfl
        rotate_left
        · simp only [Act.put, List.setIfInBounds_toArray, List.set_cons_zero, List.set_cons_succ]
          rfl
        refine last_ (i := 18) (N := none) #[true, true, true, true, true, true, true, true, true, true, true, true, true, true, true, true, true, true, true] rfl rfl (by kernel_rfl) (by decide) (fun K hK => ?_)
        go_simp
        refine hK.out _ _ ?_
        clear hK K
        try simp only [Act.put, List.setIfInBounds_toArray, List.set_cons_zero, List.set_cons_succ]
        refine done_ (by kernel_rfl) ?_
        go_wp2
        go_roundg ((cfgOf l cs Q).meas (frontsOf l ts done) (t', (s.2.set s.1 0).set t' (D' + Q * wv')))
        case measure => rw [← hn.out]; exact HN.out.2.1
        case rel => exact ⟨(t', (s.2.set s.1 0).set t' (D' + Q * wv')), gc, cc, (HM2.out.below hb4).setCr t' (D' + Q * wv'), HN.out.1, rfl, HN.out.2.2⟩

    case neg =>
      have hCL : (cfgOf l cs Q).clear (frontsOf l ts done) s = s.2 := by
        unfold Cfg.clear
        rw [hfa, if_neg hneg]
      have hf0 : 0 ≤ frontOf l ts done s.1 := by omega
      have hfl2 := hfr.lt hf0
      obtain ⟨i, hi⟩ : ∃ i : Nat, frontOf l ts done s.1 = i := ⟨_, (Int.toNat_of_nonneg hf0).symm⟩
      have hco : ¬ cs.getD i 0 ≤ s.2.getD s.1 0 := fun h => hstp (hst0.2 ⟨hf0, by rw [hi]; exact h⟩)
      rw [hi] at hfl2 ⊢
      have hilt : i < cs.length := by have := g.len; omega
      obtain ⟨xc, rfl, hcc⟩ := (hcs.below hlow).at hilt
      have q1 : decide ((i : Int) ≥ 0) = true := decide_eq_true (by omega)
      have q2 : decide (cs.getD i 0 ≤ s.2.getD s.1 0) = false := decide_eq_false hco
      have q5 : decide ((i : Int) < 0) = false := decide_eq_false (by omega)
      have q3 : (0 : Int) ≤ (i : Int) := by omega
      have q4 : (i : Int) < (cs.length : Int) := by omega
      obtain ⟨C, hC⟩ : ∃ C, cs.getD i 0 = C := ⟨_, rfl⟩
      obtain ⟨D, hD⟩ : ∃ D, s.2.getD s.1 0 = D := ⟨_, rfl⟩
      rw [hC] at hcc q2
      rw [hD] at q2 c3
      rw [hCL] at hNX hcm hclen
      clear hst0 hfr hf0 hfa hfl2 hilt hco hi hC hD hCL hneg
      by_cases hn2 : 0 ≤ frontOf l ts done t'
      case neg =>
        rw [if_neg hn2] at hNX
        have HD2 : Hid (∀ wx, Below w.heap.size w wx → Calls Try.prog 37 #[.slice al l.length cl, .slice aq ts.length cq, .slice ad done.length cd, .int .i64 t'] wx fun e w' => e = .returned (.int .i64 (frontOf l ts done t')) ∧ Below wx.heap.size wx w') := Lib.hid fun wx hb => HD.out wx t' ht'le hb
        have q6 : decide (frontOf l ts done t' ≥ 0) = false := decide_eq_false (by omega)
        obtain ⟨f', hf'⟩ : ∃ f', frontOf l ts done t' = f' := ⟨_, rfl⟩
        rw [hf'] at q6 HD2
        rw [hNX] at hNI hNL hNG
        have HN := Lib.hid (And.intro hNI (And.intro hNL hNG))
        clear hNX hn2 hf' hNI hNL hNG hwt hfa2 hcm ht' hlow hcr hcs ok g hWT hclen hstp ht'le
        go_wp2
        go_quiet (fail)
        go_wp2_with fail
        have M2 : StM w t' s.2 gc cc ((wv.drewN nq).setCell ⟨w.heap.size, 0, none⟩ (.int .i64 t')) := (HM.out.drewN nq).setT t'
        refine (HD2.out _ M2.low).mono ?_
        rintro e w3 ⟨rfl, hb3⟩
        have HM3 := Lib.hid (M2.below hb3)
        clear M2 hb3
        go_wp2
        go_roundg ((cfgOf l cs Q).meas (frontsOf l ts done) (t', s.2))
        case measure => rw [← hn.out]; exact HN.out.2.1
        case rel => exact ⟨(t', s.2), gc, cc, HM3.out, HN.out.1, rfl, HN.out.2.2⟩
      case pos =>
        rw [if_pos hn2] at hNX
        have HD2 : Hid (∀ wx, Below w.heap.size w wx → Calls Try.prog 37 #[.slice al l.length cl, .slice aq ts.length cq, .slice ad done.length cd, .int .i64 t'] wx fun e w' => e = .returned (.int .i64 (frontOf l ts done t')) ∧ Below wx.heap.size wx w') := Lib.hid fun wx hb => HD.out wx t' ht'le hb
        have q6 : decide (frontOf l ts done t' ≥ 0) = true := decide_eq_true (by omega)
        obtain ⟨f', hf'⟩ : ∃ f', frontOf l ts done t' = f' := ⟨_, rfl⟩
        rw [hf'] at q6 HD2
        rw [hNX] at hNI hNL hNG
        obtain ⟨wv', hwv⟩ : ∃ wv', (cfgOf l cs Q).wt t' = wv' := ⟨_, rfl⟩
        obtain ⟨D', hD'⟩ : ∃ D', s.2.getD t' 0 = D' := ⟨_, rfl⟩
        rw [hwv] at hwt hWT hNI hNL hNG
        rw [hD'] at hcm hNI hNL hNG
        have hmp := mul_pos_le g.q hwt
        have m1 : IntKind.i64.wrap (Q * wv') = Q * wv' := IntWalk.i64_in _ (by omega)
        have m2 : IntKind.i64.wrap (D' + Q * wv') = D' + Q * wv' := IntWalk.i64_in _ (by omega)
        have HN := Lib.hid (And.intro hNI (And.intro hNL hNG))
        have HDD := Lib.hid hD'
        have I0 : Hid (∀ wx, Shs wx al l → Calls Try.prog 38 #[.slice al l.length cl, .int .i64 t'] wx fun e w' => e = .returned (.int .i64 wv') ∧ w' = wx) := Lib.hid fun wx h => hWT wx h hc (by omega) ht'le
        clear hNX hn2 hf' hNI hNL hNG hwt hfa2 hcm ht' hlow hcr hcs ok g hWT hclen hstp ht'le hmp hwv hD'
        go_wp2
        go_quiet (fail)
        go_wp2_with fail
        have M1 : StM w t' s.2 gc cc ((wv.drewN nq).setCell ⟨w.heap.size, 0, none⟩ (.int .i64 t')) := (HM.out.drewN nq).setT t'
        refine (HD2.out _ M1.low).mono ?_
        rintro e W2 ⟨rfl, hb3⟩
        have M2 := M1.below hb3
        have hX2 := HX.out.below M2.low
        have HL : s.2.length = s.2.length := by simp
        have HD := HDD.out
        clear c1 c2 c3 z1 z3 hcc M1 hb3
        have p3 := M2.cr.at (j := t') (by have := hsl.out; omega) 0
        rw [HD] at p3
        have p2 : W2.cell? ⟨w.heap.size, 1, none⟩ = some (.slice (some ⟨gc, 0, none⟩) s.2.length cc) := M2.b6.cell 1
        have p1 : W2.cell? ⟨w.heap.size, 0, none⟩ = some (.int .i64 t') := M2.b6.cell 0
        try simp only [List.length_set] at p2
        have KK : Hid (∀ wx, Below W2.heap.size W2 wx → Below W2.heap.size W2 wx ∧ wx.cell? ⟨w.heap.size, 0, none⟩ = some (.int .i64 t') ∧ wx.cell? ⟨w.heap.size, 1, none⟩ = some (.slice (some ⟨gc, 0, none⟩) s.2.length cc) ∧ wx.cell? ⟨gc, t', none⟩ = some (.int .i64 D') ∧ (∀ j, wx.frozen? ⟨gc, j, none⟩ = false)) := Lib.hid fun wx hb => ⟨hb, below_keep hb p1, below_keep hb p2, below_keep hb p3, fun j => (M2.below hb).cr.free j⟩
        have I1 : Hid (∀ wx, Below W2.heap.size W2 wx → Calls Try.prog 38 #[.slice al l.length cl, .int .i64 t'] wx fun e w' => e = .returned (.int .i64 wv') ∧ Below W2.heap.size W2 w') := Lib.hid fun wx hb => (I0.out wx (hX2.below hb)).mono fun e w' h => ⟨h.1, by rw [h.2]; exact hb⟩
        have S0 := KK.out W2.drew (Below.refl _ _).drew
        have HM2 := Lib.hid M2
        clear p1 p2 p3 M2 hX2 HL HD
        go_wp2
        refine start_ (n := 19) (S := (fun wx => Below W2.heap.size W2 wx ∧ wx.cell? ⟨w.heap.size, 0, none⟩ = some (.int .i64 t') ∧ wx.cell? ⟨w.heap.size, 1, none⟩ = some (.slice (some ⟨gc, 0, none⟩) s.2.length cc) ∧ wx.cell? ⟨gc, t', none⟩ = some (.int .i64 D') ∧ (∀ j, wx.frozen? ⟨gc, j, none⟩ = false))) (ds := [18]) #[false, false, false, false, false, false, false, false, false, false, false, false, false, false, false, false, false, false, false] (by kernel_rfl) rfl rfl S0 (fun hHeld => ?_)
        refine pure_ (i := 0) (N := some 81) (v := ?_) (a' := ?_) #[true, false, false, false, false, false, false, false, false, false, false, false, false, false, false, false, false, false, false] rfl rfl (by kernel_rfl) (fun _ _ _ h => h) (Or.inl ⟨by rfl, ?_⟩) ?_ ?_
        rotate_left
        · intro w'
          go_simp
          try with_reducible rfl
        rotate_left
        · simp only [Act.put, List.setIfInBounds_toArray, List.set_cons_zero, List.set_cons_succ]
          rfl
        refine take_ (i := 1) (N := some 82) (v := ?_) (a' := ?_) #[true, true, false, false, false, false, false, false, false, false, false, false, false, false, false, false, false, false, false] rfl rfl (by kernel_rfl) (fun _ _ _ h => h) (Or.inl ⟨by rfl, ?_⟩) hHeld ?_ ?_
        rotate_left
        · rintro w' ⟨s0, s1, s2, s3, s4⟩
          go_simp
          try with_reducible rfl
        rotate_left
        · simp only [Act.put, List.setIfInBounds_toArray, List.set_cons_zero, List.set_cons_succ]
          rfl
        refine pure_ (i := 2) (N := some 83) (v := ?_) (a' := ?_) #[true, true, true, false, false, false, false, false, false, false, false, false, false, false, false, false, false, false, false] rfl rfl (by kernel_rfl) (fun _ _ _ h => h) (Or.inl ⟨by rfl, ?_⟩) ?_ ?_
        rotate_left
        · intro w'
          go_simp
          try with_reducible rfl
        rotate_left
        · simp only [Act.put, List.setIfInBounds_toArray, List.set_cons_zero, List.set_cons_succ]
          rfl
        refine take_ (i := 3) (N := some 84) (v := ?_) (a' := ?_) #[true, true, true, true, false, false, false, false, false, false, false, false, false, false, false, false, false, false, false] rfl rfl (by kernel_rfl) (fun _ _ _ h => h) (Or.inl ⟨by rfl, ?_⟩) hHeld ?_ ?_
        rotate_left
        · rintro w' ⟨s0, s1, s2, s3, s4⟩
          go_simp
          try with_reducible rfl
        rotate_left
        · simp only [Act.put, List.setIfInBounds_toArray, List.set_cons_zero, List.set_cons_succ]
          rfl
        refine pure_ (i := 4) (N := some 85) (v := ?_) (a' := ?_) #[true, true, true, true, true, false, false, false, false, false, false, false, false, false, false, false, false, false, false] rfl rfl (by kernel_rfl) (fun _ _ _ h => h) (Or.inl ⟨by rfl, ?_⟩) ?_ ?_
        rotate_left
        · intro w'
          go_simp
          try with_reducible rfl
        rotate_left
        · simp only [Act.put, List.setIfInBounds_toArray, List.set_cons_zero, List.set_cons_succ]
          rfl
        refine take_ (i := 5) (N := some 86) (v := ?_) (a' := ?_) #[true, true, true, true, true, true, false, false, false, false, false, false, false, false, false, false, false, false, false] rfl rfl (by kernel_rfl) (fun _ _ _ h => h) (Or.inl ⟨by rfl, ?_⟩) hHeld ?_ ?_
        rotate_left
        · rintro w' ⟨s0, s1, s2, s3, s4⟩
          go_simp
          try with_reducible rfl
        rotate_left
        · simp only [Act.put, List.setIfInBounds_toArray, List.set_cons_zero, List.set_cons_succ]
          rfl
        refine pure_ (i := 6) (N := some 87) (v := ?_) (a' := ?_) #[true, true, true, true, true, true, true, false, false, false, false, false, false, false, false, false, false, false, false] rfl rfl (by kernel_rfl) (fun _ _ _ h => h) (Or.inl ⟨by rfl, ?_⟩) ?_ ?_
        rotate_left
        · intro w'
          go_simp
          try with_reducible rfl
        rotate_left
        · simp only [Act.put, List.setIfInBounds_toArray, List.set_cons_zero, List.set_cons_succ]
          rfl
        refine take_ (i := 7) (N := some 88) (v := ?_) (a' := ?_) #[true, true, true, true, true, true, true, true, false, false, false, false, false, false, false, false, false, false, false] rfl rfl (by kernel_rfl) (fun _ _ _ h => h) (Or.inl ⟨by rfl, ?_⟩) hHeld ?_ ?_
        rotate_left
        · rintro w' ⟨s0, s1, s2, s3, s4⟩
          go_simp
          try with_reducible rfl
        rotate_left
        · simp only [Act.put, List.setIfInBounds_toArray, List.set_cons_zero, List.set_cons_succ]
          rfl
        refine pure_ (i := 8) (N := some 89) (v := ?_) (a' := ?_) #[true, true, true, true, true, true, true, true, true, false, false, false, false, false, false, false, false, false, false] rfl rfl (by kernel_rfl) (fun _ _ _ h => h) (Or.inl ⟨by rfl, ?_⟩) ?_ ?_
        rotate_left
        · intro w'
          go_simp
          try with_reducible rfl
        rotate_left
        · simp only [Act.put, List.setIfInBounds_toArray, List.set_cons_zero, List.set_cons_succ]
          rfl
        refine take_ (i := 9) (N := some 90) (v := ?_) (a' := ?_) #[true, true, true, true, true, true, true, true, true, true, false, false, false, false, false, false, false, false, false] rfl rfl (by kernel_rfl) (fun _ _ _ h => h) (Or.inl ⟨by rfl, ?_⟩) hHeld ?_ ?_
        rotate_left
        · rintro w' ⟨s0, s1, s2, s3, s4⟩
          go_simp
          try with_reducible rfl
        rotate_left
        · simp only [Act.put, List.setIfInBounds_toArray, List.set_cons_zero, List.set_cons_succ]
          rfl
        refine pure_ (i := 10) (N := some 91) (v := ?_) (a' := ?_) #[true, true, true, true, true, true, true, true, true, true, true, false, false, false, false, false, false, false, false] rfl rfl (by kernel_rfl) (fun _ _ _ h => h) (Or.inl ⟨by rfl, ?_⟩) ?_ ?_
        rotate_left
        · intro w'
          go_simp
          try with_reducible rfl
        rotate_left
        · simp only [Act.put, List.setIfInBounds_toArray, List.set_cons_zero, List.set_cons_succ]
          rfl
        refine pure_ (i := 11) (N := some 92) (v := ?_) (a' := ?_) #[true, true, true, true, true, true, true, true, true, true, true, true, false, false, false, false, false, false, false] rfl rfl (by kernel_rfl) (fun _ _ _ h => h) (Or.inl ⟨by rfl, ?_⟩) ?_ ?_
        rotate_left
        · intro w'
          go_simp
          try with_reducible rfl
        rotate_left
        · simp only [Act.put, List.setIfInBounds_toArray, List.set_cons_zero, List.set_cons_succ]
          rfl
        refine pure_ (i := 12) (N := some 93) (v := ?_) (a' := ?_) #[true, true, true, true, true, true, true, true, true, true, true, true, true, false, false, false, false, false, false] rfl rfl (by kernel_rfl) (fun _ _ _ h => h) (Or.inl ⟨by rfl, ?_⟩) ?_ ?_
        rotate_left
        · intro w'
          go_simp
          try with_reducible rfl
        rotate_left
        · simp only [Act.put, List.setIfInBounds_toArray, List.set_cons_zero, List.set_cons_succ]
          rfl
        refine take_ (i := 13) (N := some 94) (v := ?_) (a' := ?_) #[true, true, true, true, true, true, true, true, true, true, true, true, true, true, false, false, false, false, false] rfl rfl (by kernel_rfl) (fun _ _ _ h => h) (Or.inl ⟨by rfl, ?_⟩) hHeld ?_ ?_
        rotate_left
        · rintro w' ⟨s0, s1, s2, s3, s4⟩
          go_simp
          try with_reducible rfl
        rotate_left
        · simp only [Act.put, List.setIfInBounds_toArray, List.set_cons_zero, List.set_cons_succ]
          rfl
        refine one_ (i := 14) (N := some 95) #[true, true, true, true, true, true, true, true, true, true, true, true, true, true, true, false, false, false, false] rfl rfl (by kernel_rfl) (by decide) (fun K hK => ?_)
        go_simp
        refine (I1.out _ hHeld.1).mono ?_
        rintro e w4 ⟨rfl, hb4⟩
        refine hK.out _ _ (KK.out _ hb4) (fun hHeld => ?_)
        clear hK K
        try simp only [Act.put, List.setIfInBounds_toArray, List.set_cons_zero, List.set_cons_succ]
        refine pure_ (i := 15) (N := some 96) (v := ?_) (a' := ?_) #[true, true, true, true, true, true, true, true, true, true, true, true, true, true, true, true, false, false, false] rfl rfl (by kernel_rfl) (fun _ _ _ h => h) (Or.inl ⟨by rfl, ?_⟩) ?_ ?_
        rotate_left
        · intro w'
          go_simp
          try with_reducible rfl
        rotate_left
        · simp only [Act.put, List.setIfInBounds_toArray, List.set_cons_zero, List.set_cons_succ]
          rfl
        refine pure_ (i := 16) (N := some 97) (v := ?_) (a' := ?_) #[true, true, true, true, true, true, true, true, true, true, true, true, true, true, true, true, true, false, false] rfl rfl (by kernel_rfl) (fun _ _ _ h => h) (Or.inl ⟨by rfl, ?_⟩) ?_ ?_
        rotate_left
        · intro w'
          go_simp
          try with_reducible rfl
        rotate_left
        · simp only [Act.put, List.setIfInBounds_toArray, List.set_cons_zero, List.set_cons_succ]
          rfl
        refine pure_ (i := 17) (N := some 98) (v := ?_) (a' := ?_) #[true, true, true, true, true, true, true, true, true, true, true, true, true, true, true, true, true, true, false] rfl rfl (by kernel_rfl) (fun _ _ _ h => h) (Or.inl ⟨by rfl, ?_⟩) ?_ ?_
        rotate_left
        · intro w'
          go_simp
          try with_reducible rfl
        rotate_left
        · simp only [Act.put, List.setIfInBounds_toArray, List.set_cons_zero, List.set_cons_succ]
          rfl
        refine last_ (i := 18) (N := none) #[true, true, true, true, true, true, true, true, true, true, true, true, true, true, true, true, true, true, true] rfl rfl (by kernel_rfl) (by decide) (fun K hK => ?_)
        go_simp
        refine hK.out _ _ ?_
        clear hK K
        try simp only [Act.put, List.setIfInBounds_toArray, List.set_cons_zero, List.set_cons_succ]
        refine done_ (by kernel_rfl) ?_
        go_wp2
        go_roundg ((cfgOf l cs Q).meas (frontsOf l ts done) (t', s.2.set t' (D' + Q * wv')))
        case measure => rw [← hn.out]; exact HN.out.2.1
        case rel => exact ⟨(t', s.2.set t' (D' + Q * wv')), gc, cc, (HM2.out.below hb4).setCr t' (D' + Q * wv'), HN.out.1, rfl, HN.out.2.2⟩

end Go.Proofs.Ytdfnpknekjgkiaa
