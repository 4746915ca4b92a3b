/- The reference's Served. -/
import Derived.Test.YtdfnpknekjgkiaaD18
namespace Go.Proofs.Ytdfnpknekjgkiaa
open Go.RowKit
open Go.Proofs.YtdfnpknekjgkiaaW.PrintLast
set_option linter.unusedVariables false
set_option linter.unusedSimpArgs false

/-- Between two requests, share by share. -/
def mix2 (l : Shares) (ts : List ByteArray) (cs : List Int) (xs : List Int) (m k i : Nat) : List Int := (List.range l.length).map (fun p => if p < k then servedAt ts cs (l.getD p (default, 0)).1 (xs.take m) else if p = k then servedAt ts cs (l.getD p (default, 0)).1 (xs.take i) else 0)
theorem mix2_len (l : Shares) (ts : List ByteArray) (cs : List Int) (xs : List Int) (m k i : Nat) : (mix2 l ts cs xs m k i).length = l.length := by simp [mix2]
theorem mix2_zero (l : Shares) (ts : List ByteArray) (cs : List Int) (xs : List Int) (m : Nat) : mix2 l ts cs xs m 0 0 = List.replicate l.length 0 := by
  unfold mix2
  apply List.ext_getElem (by simp)
  intro p h1 h2
  simp [servedAt]
theorem mix2_next (l : Shares) (ts : List ByteArray) (cs : List Int) (xs : List Int) (m k : Nat) : mix2 l ts cs xs m k m = mix2 l ts cs xs m (k + 1) 0 := by
  unfold mix2
  apply List.map_congr_left
  intro p hp
  by_cases h : p < k
  · rw [if_pos h, if_pos (by omega)]
  · rw [if_neg h]
    by_cases e : p = k
    · rw [if_pos e, if_pos (by omega)]
    · rw [if_neg e, if_neg (by omega)]
      simp [servedAt]
theorem mix2_all (l : Shares) (ts : List ByteArray) (cs : List Int) (xs : List Int) (m i : Nat) : mix2 l ts cs xs m l.length i = srv l ts cs (xs.take m) := by
  unfold mix2 srv
  apply List.ext_getElem (by simp)
  intro p h1 h2
  simp at h1 h2
  simp [h1]
theorem mix2_at (l : Shares) (ts : List ByteArray) (cs : List Int) (xs : List Int) (m i : Nat) {k : Nat} (hk : k < l.length) (d : Int) : (mix2 l ts cs xs m k i).getD k d = servedAt ts cs l[k].1 (xs.take i) := by
  simp [mix2, hk]
theorem mix2_set (l : Shares) (ts : List ByteArray) (cs : List Int) (xs : List Int) (m i : Nat) {k : Nat} (hk : k < l.length) : (mix2 l ts cs xs m k i).set k (servedAt ts cs l[k].1 (xs.take (i + 1))) = mix2 l ts cs xs m k (i + 1) := by
  unfold mix2
  apply List.ext_getElem (by simp)
  intro p h1 h2
  simp at h1 h2
  simp only [List.getElem_set, List.getElem_map, List.getElem_range]
  by_cases e : k = p
  · subst e; simp [hk]
  · rw [if_neg e]
    by_cases h : p < k
    · rw [if_pos h, if_pos h]
    · rw [if_neg h, if_neg h, if_neg (Ne.symm e), if_neg (Ne.symm e)]
theorem mix2_keep (l : Shares) (ts : List ByteArray) (cs : List Int) (xs : List Int) (m i : Nat) {k : Nat} (hk : k < l.length) (he : servedAt ts cs l[k].1 (xs.take (i + 1)) = servedAt ts cs l[k].1 (xs.take i)) : mix2 l ts cs xs m k i = mix2 l ts cs xs m k (i + 1) := by
  rw [← mix2_set l ts cs xs m i hk, he, ← mix2_at l ts cs xs m i hk 0]
  have hl := mix2_len l ts cs xs m k i
  apply List.ext_getElem (by simp)
  intro p h1 h2
  simp only [List.getElem_set]
  by_cases e : k = p
  · subst e; simp [h1]
  · rw [if_neg e]
structure ReM (w : World) (gf cf : Nat) (xs : List Int) (wr : World) : Prop where
  row : RowI wr w.heap.size gf cf xs
  low : Below w.heap.size w wr
theorem ReM.below {w wr w' : World} {gf cf : Nat} {xs : List Int} (h : ReM w gf cf xs wr) (hb : Below wr.heap.size wr w') : ReM w gf cf xs w' := ⟨h.row.below hb, Below.next h.low hb⟩
theorem ReM.set {w wr : World} {gf cf : Nat} {xs : List Int} (h : ReM w gf cf xs wr) (j : Nat) (v : Int) : ReM w gf cf (xs.set j v) (wr.setCell ⟨gf, j, none⟩ (.int .i64 v)) :=
  ⟨h.row.set j v, h.low.setCell (by show w.heap.size ≤ gf; exact h.row.lt.1) _⟩
set_option maxRecDepth 100000 in
set_option maxHeartbeats 8000000 in
theorem rserved_any (l : Shares) (ts : List ByteArray) (cs xs : List Int) (n : Int) (w : World) (al aq acs ax : Option Addr) (cl cq ccs cx : Nat)
    (hq : Rqs w aq ts) (hx : Shs w al l) (hcs : Ints .i64 w acs cs) (hxs : Ints .i64 w ax xs) (hc : l.length ≤ cl) (hl : l.length ≤ 1000) (hcq : ts.length ≤ cq) (htl : ts.length ≤ 1000) (hccs : cs.length ≤ ccs) (hcx : xs.length ≤ cx) (hlx : xs.length ≤ 100)
    (hcb : ∀ x ∈ cs, -1125899906842624 ≤ x ∧ x ≤ 1125899906842624) :
    Calls Try.prog 19 #[.slice al l.length cl, .slice aq ts.length cq, .slice acs cs.length ccs, .slice ax xs.length cx, .int .i64 n] w (ServedR l ts cs xs n w) := by
  by_cases hlen : cs.length = ts.length
  case neg =>
    have q1 : ((cs.length : Int) != (ts.length : Int)) = true := by rw [bne_iff_ne]; omega
    have HE := Lib.hid hlen
    clear hlen hq hx hcs hxs hcb
    go_enter Try.func19, Try.ntmps19
    go_wp2
    go_ret
    unfold ServedR
    rw [if_neg (fun h => HE.out h.1)]
    exact ⟨rfl, Below.refl _ _⟩
  have q1 : ((cs.length : Int) != (ts.length : Int)) = false := by rw [bne_eq_false_iff_eq]; omega
  have hmk := fun W => (make_ints0 W 0 l.length (by omega) (Nat.zero_le _)).1
  have HX := Lib.hid hx
  have HQ := Lib.hid hq
  have HCS := Lib.hid hcs
  have HLN := Lib.hid hlen
  have HCB := Lib.hid hcb
  clear hx hq hcs hlen hcb
  go_enter Try.func19, Try.ntmps19
  go_wp2
  go_loopw [11] (fun i wr => ∃ k : Nat, i = .int .i64 k ∧ k ≤ xs.length ∧ Hid (∀ j (h : j < k) (h2 : j < xs.length), ¬ (xs[j] < 0 ∨ (ts.length : Int) ≤ xs[j])) ∧ wr = w) (fun i _ => xs.length - (intOf i).toNat)
  case atStart => exact ⟨0, rfl, by omega, Lib.hid fun j h => absurd h (by omega), rfl⟩
  case round =>
    obtain ⟨k, rfl, hk, HQQ, rfl⟩ := hrel
    by_cases h : k < xs.length
    · obtain ⟨x, rfl, hcell⟩ := hxs.at h
      rw [show xs.getD k 0 = xs[k] by simp [h]] at hcell
      by_cases hb : xs[k] < 0 ∨ (ts.length : Int) ≤ xs[k]
      · have HBD := Lib.hid (badIdx_at h hb)
        by_cases h0 : xs[k] < 0
        · have r1 : decide (xs[k] < 0) = true := decide_eq_true h0
          generalize xs[k] = v at *
          clear hb h0 hmk
          go_wp2
          go_ret
          unfold ServedR
          rw [if_neg (fun h => by have h2 := h.2; rw [HBD.out] at h2; cases h2)]
          exact ⟨rfl, Below.refl _ _⟩
        · have r1 : decide (xs[k] < 0) = false := decide_eq_false h0
          have r2 : decide (xs[k] ≥ (ts.length : Int)) = true := decide_eq_true (by omega)
          generalize xs[k] = v at *
          clear hb h0 hmk
          go_wp2
          go_ret
          unfold ServedR
          rw [if_neg (fun h => by have h2 := h.2; rw [HBD.out] at h2; cases h2)]
          exact ⟨rfl, Below.refl _ _⟩
      · have HE := Lib.hid hb
        have r1 : decide (xs[k] < 0) = false := decide_eq_false (by omega)
        have r2 : decide (xs[k] ≥ (ts.length : Int)) = false := decide_eq_false (by omega)
        obtain ⟨v, hv⟩ : ∃ v, xs[k] = v := ⟨_, rfl⟩
        rw [hv] at r1 r2 hcell
        clear hb hv
        go_wp2
        go_roundw
        case rel => exact ⟨k + 1, by go_num, by omega, Lib.hid fun j h1 h2 => by
            by_cases hj : j = k
            · subst hj; exact HE.out
            · exact HQQ.out j (by omega) h2, trivial⟩
        case measure => simp [intOf]; omega
    · obtain ⟨w0, hw0⟩ : ∃ w0, w0 = wr := ⟨_, rfl⟩
      have hbd := badIdx_none (n := ts.length) fun j hj => HQQ.out j (by omega) hj
      have hok : Hid (cs.length = ts.length ∧ badIdx ts.length xs = false) := Lib.hid ⟨HLN.out, hbd⟩
      have HIX := Lib.hid (badIdx_false hbd)
      have p9 : decide ((k : Int) < (xs.length : Int)) = false := decide_eq_false (by omega)
      have HM0 : Hid (ReM wr wr.heap.size l.length (mix2 l ts cs xs (cntOf n xs.length) 0 0) (wr.alloc (.cells (madeCells #[.int .i64 0] l.length) 3))) := by
        have h2 := (make_ints0 wr wr.heap.size l.length (by omega) (Nat.le_refl _)).2
        refine Lib.hid ⟨?_, below_alloc (Below.refl _ _) _⟩
        rw [mix2_zero]; exact h2
      have HXS := Lib.hid hxs
      have hmc : Hid (cntOf n xs.length = (max 0 (min n xs.length)).toNat) := Lib.hid rfl
      obtain ⟨m, hm⟩ : ∃ m, cntOf n xs.length = m := ⟨_, rfl⟩
      rw [hm] at HM0 hmc
      have HMM := Lib.hid hm
      clear hbd hxs HQQ hm
      go_wp2
      obtain ⟨W1, hW1⟩ : ∃ W1, W1 = wr.alloc (.cells (madeCells #[.int .i64 0] l.length) 3) := ⟨_, rfl⟩
      rw [← hW1] at HM0 ⊢
      subst hw0
      generalize w0.heap.size = gf at HM0 ⊢
      clear hW1 hmk
      go_loopw [13] (fun kk wy => ∃ k : Nat, kk = .int .i64 k ∧ k ≤ l.length ∧ Hid (ReM w0 gf l.length (mix2 l ts cs xs m k 0) wy)) (fun kk _ => l.length - (intOf kk).toNat)
      case atStart => exact ⟨0, rfl, by omega, HM0⟩
      case round =>
        clear HM0
        obtain ⟨k, rfl, hk, HM⟩ := hrel
        by_cases hkl : k < l.length
        · have p1 : decide ((k : Int) < (l.length : Int)) = true := decide_eq_true (by omega)
          go_wp2
          go_loopw [14] (fun jj wz => ∃ j : Nat, jj = .int .i64 j ∧ j ≤ m ∧ Hid (ReM w0 gf l.length (mix2 l ts cs xs m k j) wz)) (fun jj _ => m - (intOf jj).toNat)
          case atStart => exact ⟨0, rfl, by omega, HM⟩
          case round =>
            clear HM
            obtain ⟨j, rfl, hj, HM⟩ := hrel
            by_cases h : j < m
            · have hjx : j < xs.length := by have := hmc.out; omega
              have low := HM.out.low
              obtain ⟨xa, rfl, e1⟩ := (HXS.out.below low).at hjx
              rw [show xs.getD j 0 = xs[j] by simp [hjx]] at e1
              obtain ⟨i1, i2⟩ := HIX.out xs[j] (List.getElem_mem hjx)
              obtain ⟨i, hie⟩ : ∃ i : Nat, xs[j] = i := ⟨xs[j].toNat, by omega⟩
              have HXJ : Hid (xs[j].toNat = i) := Lib.hid (by omega)
              rw [hie] at e1 i1 i2
              have hit : i < ts.length := by omega
              have hic2 : i < cs.length := by rw [HLN.out]; exact hit
              have hic3 : (i : Int) < (cs.length : Int) := by omega
              have p2 : decide ((j : Int) < (xs.length : Int)) = true := decide_eq_true (by omega)
              have p3 : decide ((j : Int) < n) = true := decide_eq_true (by have := hmc.out; omega)
              have HJX := Lib.hid hjx
              obtain ⟨y, rfl, s1, s2⟩ := (HX.out.below low).at hkl
              obtain ⟨z, rfl, hrq⟩ := (HQ.out.below low).at hit
              obtain ⟨xc, rfl, hcc⟩ := (HCS.out.below low).at hic2
              have htk : ts.getD i default = ts[i] := by simp [hit]
              have r1 := hrq.c1
              rw [← htk] at r1
              have hst := servedAt_take (ts := ts) (cs := cs) (t := l[k].1) HJX.out
              rw [HXJ.out] at hst
              have hma := mix2_at l ts cs xs m j hkl 0
              have hms := mix2_set l ts cs xs m j hkl
              have hmk := fun he => mix2_keep l ts cs xs m j hkl he
              have hbb := servedAt_le (ts := ts) (cs := cs) (t := l[k].1) (M := 1125899906842624) (by omega) HCB.out (xs.take j)
              have hlt : (xs.take j).length ≤ 100 := by rw [List.length_take]; omega
              have hci : -1125899906842624 ≤ cs.getD i 0 ∧ cs.getD i 0 ≤ 1125899906842624 := by
                have := HCB.out _ (List.getElem_mem hic2)
                simpa [hic2] using this
              have k0 : (0 : Int) ≤ (k : Int) := by omega
              have k1 : (k : Int) < (l.length : Int) := by omega
              have j0 : (0 : Int) ≤ (j : Int) := by omega
              have j1 : (j : Int) < (xs.length : Int) := by omega
              by_cases he : ts.getD i default = l[k].1
              · rw [if_pos he] at hst
                have g1 := HM.out.row.at (j := k) (by rw [mix2_len]; exact hkl) 0
                rw [hma] at g1
                rw [hst] at hms
                rw [he] at r1
                obtain ⟨C, hC⟩ : ∃ C, cs.getD i 0 = C := ⟨_, rfl⟩
                obtain ⟨D, hD⟩ : ∃ D, servedAt ts cs l[k].1 (xs.take j) = D := ⟨_, rfl⟩
                rw [hC] at hms hcc hci
                rw [hD] at hms g1 hbb
                have m1 : IntKind.i64.wrap (D + C) = D + C := IntWalk.i64_in _ (by omega)
                have HMS := Lib.hid hms
                obtain ⟨s, hs⟩ : ∃ s, l[k] = s := ⟨_, rfl⟩
                rw [hs] at r1 s1 s2
                obtain ⟨t, n2⟩ := s
                dsimp only at r1 s1 s2
                have q := eq_str (rfl : t = t)
                have HF := Lib.hid (And.intro g1 (And.intro hcc e1))
                clear hma hms hmk hst hbb hlt hci he htk hrq hC hD hs low g1 hcc hie
                go_wp2
                go_quiet (fail)
                go_wp2
                obtain ⟨W2, hW2⟩ : ∃ W2, W2 = wr.drewN nq := ⟨_, rfl⟩
                have hb2 : Below wr.heap.size wr W2 := by rw [hW2]; exact below_drewN (Below.refl _ _) _
                have HM2 := Lib.hid (HM.out.below hb2)
                rw [← hW2]
                clear hW2
                obtain ⟨g1, hcc, e1⟩ := HF.out
                have KK : Hid (∀ wx, Below W2.heap.size W2 wx → Below W2.heap.size W2 wx ∧ wx.cell? ⟨gf, k, none⟩ = some (.int .i64 D) ∧ wx.cell? (xc.add i) = some (.int .i64 C) ∧ wx.cell? (xa.add j) = some (.int .i64 i) ∧ (∀ j, wx.frozen? ⟨gf, j, none⟩ = false)) := Lib.hid fun wx hb => ⟨hb, below_keep (Below.next hb2 hb) g1, below_keep (Below.next hb2 hb) hcc, below_keep (Below.next hb2 hb) e1, fun j => (HM2.out.below hb).row.free j⟩
                have S0 := KK.out W2.drew (Below.refl _ _).drew
                clear g1 hcc e1 hb2 r1 s1 s2
                refine start_ (n := 16) (S := (fun wx => Below W2.heap.size W2 wx ∧ wx.cell? ⟨gf, k, none⟩ = some (.int .i64 D) ∧ wx.cell? (xc.add i) = some (.int .i64 C) ∧ wx.cell? (xa.add j) = some (.int .i64 i) ∧ (∀ j, wx.frozen? ⟨gf, j, none⟩ = false))) (ds := [15]) #[false, false, false, false, false, false, false, false, false, false, false, false, false, false, false, false] (by kernel_rfl) rfl rfl S0 (fun hHeld => ?_)
                refine pure_ (i := 0) (N := some 74) (v := ?_) (a' := ?_) #[true, false, false, false, false, false, false, false, false, false, false, false, false, false, false, false] rfl rfl (by kernel_rfl) (fun _ _ _ h => h) (Or.inl ⟨by rfl, ?_⟩) ?_ ?_
                rotate_left
                · intro w'
                  go_simp
                  try with_reducible rfl
                rotate_left
                · simp only [Act.put, List.setIfInBounds_toArray, List.set_cons_zero, List.set_cons_succ]
                  rfl
                refine pure_ (i := 1) (N := some 75) (v := ?_) (a' := ?_) #[true, true, false, false, false, false, false, false, false, false, false, false, false, false, false, false] rfl rfl (by kernel_rfl) (fun _ _ _ h => h) (Or.inl ⟨by rfl, ?_⟩) ?_ ?_
                rotate_left
                · intro w'
                  go_simp
                  try with_reducible rfl
                rotate_left
                · simp only [Act.put, List.setIfInBounds_toArray, List.set_cons_zero, List.set_cons_succ]
                  rfl
                refine pure_ (i := 2) (N := some 76) (v := ?_) (a' := ?_) #[true, true, true, false, false, false, false, false, false, false, false, false, false, false, false, false] rfl rfl (by kernel_rfl) (fun _ _ _ h => h) (Or.inl ⟨by rfl, ?_⟩) ?_ ?_
                rotate_left
                · intro w'
                  go_simp
                  try with_reducible rfl
                rotate_left
                · simp only [Act.put, List.setIfInBounds_toArray, List.set_cons_zero, List.set_cons_succ]
                  rfl
                refine pure_ (i := 3) (N := some 77) (v := ?_) (a' := ?_) #[true, true, true, true, false, false, false, false, false, false, false, false, false, false, false, false] rfl rfl (by kernel_rfl) (fun _ _ _ h => h) (Or.inl ⟨by rfl, ?_⟩) ?_ ?_
                rotate_left
                · intro w'
                  go_simp
                  try with_reducible rfl
                rotate_left
                · simp only [Act.put, List.setIfInBounds_toArray, List.set_cons_zero, List.set_cons_succ]
                  rfl
                refine pure_ (i := 4) (N := some 78) (v := ?_) (a' := ?_) #[true, true, true, true, true, false, false, false, false, false, false, false, false, false, false, false] rfl rfl (by kernel_rfl) (fun _ _ _ h => h) (Or.inl ⟨by rfl, ?_⟩) ?_ ?_
                rotate_left
                · intro w'
                  go_simp
                  try with_reducible rfl
                rotate_left
                · simp only [Act.put, List.setIfInBounds_toArray, List.set_cons_zero, List.set_cons_succ]
                  rfl
                refine take_ (i := 5) (N := some 79) (v := ?_) (a' := ?_) #[true, true, true, true, true, true, false, false, false, false, false, false, false, false, false, false] rfl rfl (by kernel_rfl) (fun _ _ _ h => h) (Or.inl ⟨by rfl, ?_⟩) hHeld ?_ ?_
                rotate_left
                · rintro w' ⟨s0, s1, s2, s3, s4⟩
                  go_simp
                  try with_reducible rfl
                rotate_left
                · simp only [Act.put, List.setIfInBounds_toArray, List.set_cons_zero, List.set_cons_succ]
                  rfl
                refine pure_ (i := 6) (N := some 80) (v := ?_) (a' := ?_) #[true, true, true, true, true, true, true, false, false, false, false, false, false, false, false, false] rfl rfl (by kernel_rfl) (fun _ _ _ h => h) (Or.inl ⟨by rfl, ?_⟩) ?_ ?_
                rotate_left
                · intro w'
                  go_simp
                  try with_reducible rfl
                rotate_left
                · simp only [Act.put, List.setIfInBounds_toArray, List.set_cons_zero, List.set_cons_succ]
                  rfl
                refine pure_ (i := 7) (N := some 81) (v := ?_) (a' := ?_) #[true, true, true, true, true, true, true, true, false, false, false, false, false, false, false, false] rfl rfl (by kernel_rfl) (fun _ _ _ h => h) (Or.inl ⟨by rfl, ?_⟩) ?_ ?_
                rotate_left
                · intro w'
                  go_simp
                  try with_reducible rfl
                rotate_left
                · simp only [Act.put, List.setIfInBounds_toArray, List.set_cons_zero, List.set_cons_succ]
                  rfl
                refine pure_ (i := 8) (N := some 82) (v := ?_) (a' := ?_) #[true, true, true, true, true, true, true, true, true, false, false, false, false, false, false, false] rfl rfl (by kernel_rfl) (fun _ _ _ h => h) (Or.inl ⟨by rfl, ?_⟩) ?_ ?_
                rotate_left
                · intro w'
                  go_simp
                  try with_reducible rfl
                rotate_left
                · simp only [Act.put, List.setIfInBounds_toArray, List.set_cons_zero, List.set_cons_succ]
                  rfl
                refine pure_ (i := 9) (N := some 83) (v := ?_) (a' := ?_) #[true, true, true, true, true, true, true, true, true, true, false, false, false, false, false, false] rfl rfl (by kernel_rfl) (fun _ _ _ h => h) (Or.inl ⟨by rfl, ?_⟩) ?_ ?_
                rotate_left
                · intro w'
                  go_simp
                  try with_reducible rfl
                rotate_left
                · simp only [Act.put, List.setIfInBounds_toArray, List.set_cons_zero, List.set_cons_succ]
                  rfl
                refine take_ (i := 10) (N := some 84) (v := ?_) (a' := ?_) #[true, true, true, true, true, true, true, true, true, true, true, false, false, false, false, false] rfl rfl (by kernel_rfl) (fun _ _ _ h => h) (Or.inl ⟨by rfl, ?_⟩) hHeld ?_ ?_
                rotate_left
                · rintro w' ⟨s0, s1, s2, s3, s4⟩
                  go_simp
                  try with_reducible rfl
                rotate_left
                · simp only [Act.put, List.setIfInBounds_toArray, List.set_cons_zero, List.set_cons_succ]
                  rfl
                refine pure_ (i := 11) (N := some 85) (v := ?_) (a' := ?_) #[true, true, true, true, true, true, true, true, true, true, true, true, false, false, false, false] rfl rfl (by kernel_rfl) (fun _ _ _ h => h) (Or.inl ⟨by rfl, ?_⟩) ?_ ?_
                rotate_left
                · intro w'
                  go_simp
                  try with_reducible rfl
                rotate_left
                · simp only [Act.put, List.setIfInBounds_toArray, List.set_cons_zero, List.set_cons_succ]
                  rfl
                refine take_ (i := 12) (N := some 86) (v := ?_) (a' := ?_) #[true, true, true, true, true, true, true, true, true, true, true, true, true, false, false, false] rfl rfl (by kernel_rfl) (fun _ _ _ h => h) (Or.inl ⟨by rfl, ?_⟩) hHeld ?_ ?_
                rotate_left
                · rintro w' ⟨s0, s1, s2, s3, s4⟩
                  go_simp
                  try with_reducible rfl
                rotate_left
                · simp only [Act.put, List.setIfInBounds_toArray, List.set_cons_zero, List.set_cons_succ]
                  rfl
                refine pure_ (i := 13) (N := some 87) (v := ?_) (a' := ?_) #[true, true, true, true, true, true, true, true, true, true, true, true, true, true, false, false] rfl rfl (by kernel_rfl) (fun _ _ _ h => h) (Or.inl ⟨by rfl, ?_⟩) ?_ ?_
                rotate_left
                · intro w'
                  go_simp
                  try with_reducible rfl
                rotate_left
                · simp only [Act.put, List.setIfInBounds_toArray, List.set_cons_zero, List.set_cons_succ]
                  rfl
                refine pure_ (i := 14) (N := some 88) (v := ?_) (a' := ?_) #[true, true, true, true, true, true, true, true, true, true, true, true, true, true, true, false] rfl rfl (by kernel_rfl) (fun _ _ _ h => h) (Or.inl ⟨by rfl, ?_⟩) ?_ ?_
                rotate_left
                · intro w'
                  go_simp
                  try with_reducible rfl
                rotate_left
                · simp only [Act.put, List.setIfInBounds_toArray, List.set_cons_zero, List.set_cons_succ]
                  rfl
                refine last_ (i := 15) (N := none) #[true, true, true, true, true, true, true, true, true, true, true, true, true, true, true, true] rfl rfl (by kernel_rfl) (by decide) (fun K hK => ?_)
                go_simp
                refine hK.out _ _ ?_
                clear hK K
                try simp only [Act.put, List.setIfInBounds_toArray, List.set_cons_zero, List.set_cons_succ]
                refine done_ (by kernel_rfl) ?_
                have HN : Hid (ReM w0 gf l.length (mix2 l ts cs xs m k (j + 1)) (W2.setCell ⟨gf, k, none⟩ (.int .i64 (D + C))).drew) := by
                  rw [← HMS.out]
                  exact Lib.hid ((HM2.out.set k (D + C)).below (Below.refl _ _).drew)
                go_wp2
                go_roundw
                case rel => exact ⟨j + 1, by go_num, by omega, HN⟩
                case measure => simp [intOf]; omega
              · rw [if_neg he, Int.add_zero] at hst
                have HMK := Lib.hid (hmk hst)
                have q := ne_str he
                obtain ⟨u, hu⟩ : ∃ u, ts.getD i default = u := ⟨_, rfl⟩
                rw [hu] at r1 q
                obtain ⟨s, hs⟩ : ∃ s, l[k] = s := ⟨_, rfl⟩
                rw [hs] at q s1 s2
                obtain ⟨t, n2⟩ := s
                dsimp only at q s1 s2
                clear hma hms hmk hst hbb hlt hci he htk hrq hu hs low hcc hie
                go_wp2
                go_quiet (fail)
                go_wp2
                go_roundw
                case rel => exact ⟨j + 1, by go_num, by omega, by rw [← HMK.out]; exact Lib.hid (HM.out.below (below_drewN (Below.refl _ _) _))⟩
                case measure => simp [intOf]; omega
            · have HN : Hid (ReM w0 gf l.length (mix2 l ts cs xs m (k + 1) 0) wr) := by
                have e : j = m := by omega
                have := HM.out
                rw [e, mix2_next] at this
                exact Lib.hid this
              clear HM
              by_cases hjx : j < xs.length
              · have p2 : decide ((j : Int) < (xs.length : Int)) = true := decide_eq_true (by omega)
                have p3 : decide ((j : Int) < n) = false := decide_eq_false (by have := hmc.out; omega)
                go_wp2
                go_roundw
                case rel => exact ⟨k + 1, by go_num, by omega, HN⟩
                case measure => simp [intOf]; omega
              · have p2 : decide ((j : Int) < (xs.length : Int)) = false := decide_eq_false (by omega)
                go_wp2
                go_roundw
                case rel => exact ⟨k + 1, by go_num, by omega, HN⟩
                case measure => simp [intOf]; omega
        · have p1 : decide ((k : Int) < (l.length : Int)) = false := decide_eq_false (by omega)
          have HO : Hid (RowI wr w0.heap.size gf l.length (srv l ts cs (xs.take (cntOf n xs.length))) ∧ Below w0.heap.size w0 wr) := by
            have e : k = l.length := by omega
            have h2 := HM.out
            rw [e, mix2_all, ← HMM.out] at h2
            exact Lib.hid ⟨h2.row, h2.low⟩
          clear HM
          go_wp2
          go_ret
          unfold ServedR
          rw [if_pos hok.out]
          exact ⟨⟨gf, rfl, HO.out.1⟩, HO.out.2⟩
end Go.Proofs.Ytdfnpknekjgkiaa
