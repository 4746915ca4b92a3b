/- Served. -/
import Derived.Test.YtdfnpknekjgkiaaD17
namespace Go.Proofs.Ytdfnpknekjgkiaa
open Go.RowKit
open Go.Proofs.YtdfnpknekjgkiaaW.PrintLast
set_option linter.unusedVariables false
set_option linter.unusedSimpArgs false

set_option maxRecDepth 100000 in
set_option maxHeartbeats 8000000 in
theorem served_any (l : Shares) (ts : List ByteArray) (cs xs : List Int) (n : Int) (w : World) (al aq acs ax : Option Addr) (cl cq ccs cx : Nat)
    (hq : Rqs w aq ts) (hx : Shs w al l) (hcs : Ints .i64 w acs cs) (hxs : Ints .i64 w ax xs) (hc : l.length ≤ cl) (hl : l.length ≤ 1000) (hcq : ts.length ≤ cq) (htl : ts.length ≤ 1000) (hccs : cs.length ≤ ccs) (hcx : xs.length ≤ cx) (hlx : xs.length ≤ 100)
    (hcb : ∀ x ∈ cs, -1125899906842624 ≤ x ∧ x ≤ 1125899906842624) :
    Calls Try.prog 18 #[.slice al l.length cl, .slice aq ts.length cq, .slice acs cs.length ccs, .slice ax xs.length cx, .int .i64 n] w (ServedR l ts cs xs n w) := by
  obtain ⟨W1, hW1⟩ : ∃ W1, W1 = w.alloc (.cells #[.slice aq ts.length cq] 26) := ⟨_, rfl⟩
  have hb1 : Below w.heap.size w W1 := by rw [hW1]; exact below_alloc (Below.refl _ _) _
  have B1 : Blk W1 w.heap.size 26 #[.slice aq ts.length cq] := by rw [hW1]; exact Blk.new _ _ _
  have hsz : W1.heap.size = w.heap.size + 1 := by rw [hW1]; simp
  by_cases hlen : cs.length = ts.length
  case neg =>
    have q1 : ((cs.length : Int) != (ts.length : Int)) = true := by rw [bne_iff_ne]; omega
    have HE := Lib.hid hlen
    have HB := Lib.hid hb1
    clear hlen hq hx hcs hxs B1 hsz hb1 hcb
    go_enter Try.func18, Try.ntmps18
    go_wp2
    go_ret
    unfold ServedR
    rw [if_neg (fun h => HE.out h.1)]
    exact ⟨rfl, by rw [← hW1]; exact HB.out⟩
  have q1 : ((cs.length : Int) != (ts.length : Int)) = false := by rw [bne_eq_false_iff_eq]; omega
  have CT := Lib.hid (contains31_any xs ax cx ts.length w.heap.size cq aq W1 (hxs.below hb1) hcx (by omega) (B1.cell 0))
  by_cases hbd : badIdx ts.length xs = false
  case neg =>
    have hbt : badIdx ts.length xs = true := by cases h : badIdx ts.length xs with | true => rfl | false => exact absurd h hbd
    rw [hbt] at CT
    have HE := Lib.hid hbd
    have HB := Lib.hid hb1
    have HL := Lib.hid hlen
    have hmf : ∀ (fn : Fn) (first cap : Array Value) (w : World), (Instr.makeFunc fn first cap).run Try.prog w = .ok (.func fn first cap) w := fun _ _ _ _ => rfl
    clear hlen hq hx hcs hxs B1 hsz hb1 hcb hbd hbt
    go_enter Try.func18, Try.ntmps18
    go_wp2_with fail
    rw [← hW1]
    refine CT.out.mono ?_
    rintro e w2 ⟨rfl, rfl⟩
    clear hW1
    go_wp2
    go_ret
    unfold ServedR
    rw [if_neg (fun h => HE.out h.2)]
    exact ⟨rfl, HB.out⟩
  rw [hbd] at CT
  have hok : Hid (cs.length = ts.length ∧ badIdx ts.length xs = false) := Lib.hid ⟨hlen, hbd⟩
  have HIX := Lib.hid (badIdx_false hbd)
  have hmf : ∀ (fn : Fn) (first cap : Array Value) (w : World), (Instr.makeFunc fn first cap).run Try.prog w = .ok (.func fn first cap) w := fun _ _ _ _ => rfl
  have hmk := fun W => (make_ints0 W 0 l.length (by omega) (Nat.zero_le _)).1
  have HM0 : Hid (SeM w aq ts.length cq W1.heap.size l.length (srv l ts cs (xs.take 0)) (W1.alloc (.cells (madeCells #[.int .i64 0] l.length) 3))) := by
    have h2 := (make_ints0 W1 (w.heap.size + 1) l.length (by omega) (by omega)).2
    refine Lib.hid ⟨B1.alloc _, ?_, below_alloc hb1 _⟩
    rw [List.take_zero, srv_zero]; exact h2
  have HX := Lib.hid hx
  have HQ := Lib.hid hq
  have HCS := Lib.hid hcs
  have HXS := Lib.hid hxs
  have hsx := hsz
  have HLN := Lib.hid hlen
  have HCB := Lib.hid hcb
  obtain ⟨i0, hi, hz0, hz1, hz2⟩ := info_parts info3
  clear hx hq hcs hxs hlen hbd B1 hb1 hcb hsz hsx
  by_cases hn0 : n < 0
  case pos =>
    have HCN : Hid (cntOf n xs.length = 0) := Lib.hid (by unfold cntOf; omega)
    have r1 : n < (xs.length : Int) := by omega
    have r2 : ¬ ((xs.length : Int) < n) := by omega
    have r3 : ¬ (0 < n) := by omega
    have hm : (0 : Int) ≤ (cx : Int) := by omega
    go_enter Try.func18, Try.ntmps18
    go_wp2_with fail
    rw [← hW1]
    refine CT.out.mono ?_
    rintro e w2 ⟨rfl, rfl⟩
    clear hW1 CT
    go_wp2
    obtain ⟨W2, hW2⟩ : ∃ W2, W2 = w2.alloc (.cells (madeCells #[.int .i64 0] l.length) 3) := ⟨_, rfl⟩
    rw [← hW2] at HM0 ⊢
    generalize w2.heap.size = gf at *
    clear hW2 hmk hmf
    go_loopw [37] (fun i wr => ∃ j : Nat, i = .int .i64 j ∧ j ≤ 0 ∧ Hid (SeM w aq ts.length cq gf l.length (srv l ts cs (xs.take j)) wr)) (fun i _ => 0 - (intOf i).toNat)
    case atStart => exact ⟨0, rfl, by omega, HM0⟩
    case round =>
      clear HM0
      obtain ⟨j, rfl, hj, HM⟩ := hrel
      by_cases h : j < 0
      · exact absurd h (by omega)
      · have p0 : decide ((j : Int) < (0 : Int)) = false := decide_eq_false (by omega)
        have HO : Hid (RowI wr w.heap.size gf l.length (srv l ts cs (xs.take (cntOf n xs.length))) ∧ Below w.heap.size w wr) := by
          have e : j = cntOf n xs.length := by rw [HCN.out]; omega
          refine Lib.hid ⟨?_, HM.out.low⟩
          rw [← e]; exact HM.out.row.mono (by omega)
        clear HM
        go_wp2
        go_ret
        unfold ServedR
        rw [if_pos hok.out]
        exact ⟨⟨gf, rfl, HO.out.1⟩, HO.out.2⟩

  by_cases hn1 : n ≤ xs.length
  case pos =>
    obtain ⟨m, rfl⟩ : ∃ m : Nat, n = m := ⟨n.toNat, by omega⟩
    have HCN : Hid (cntOf m xs.length = m) := Lib.hid (by unfold cntOf; omega)
    have r2 : ¬ ((xs.length : Int) < (m : Int)) := by omega
    have hm : (m : Int) ≤ (cx : Int) := by omega
    by_cases hz : m = 0
    · subst hz
      go_enter Try.func18, Try.ntmps18
      go_wp2_with fail
      rw [← hW1]
      refine CT.out.mono ?_
      rintro e w2 ⟨rfl, rfl⟩
      clear hW1 CT
      go_wp2
      obtain ⟨W2, hW2⟩ : ∃ W2, W2 = w2.alloc (.cells (madeCells #[.int .i64 0] l.length) 3) := ⟨_, rfl⟩
      rw [← hW2] at HM0 ⊢
      generalize w2.heap.size = gf at *
      clear hW2 hmk hmf
      go_loopw [37] (fun i wr => ∃ j : Nat, i = .int .i64 j ∧ j ≤ 0 ∧ Hid (SeM w aq ts.length cq gf l.length (srv l ts cs (xs.take j)) wr)) (fun i _ => 0 - (intOf i).toNat)
      case atStart => exact ⟨0, rfl, by omega, HM0⟩
      case round =>
        clear HM0
        obtain ⟨j, rfl, hj, HM⟩ := hrel
        by_cases h : j < 0
        · exact absurd h (by omega)
        · have p0 : decide ((j : Int) < (0 : Int)) = false := decide_eq_false (by omega)
          have HO : Hid (RowI wr w.heap.size gf l.length (srv l ts cs (xs.take (cntOf ((0 : Nat) : Int) xs.length))) ∧ Below w.heap.size w wr) := by
            have e : j = cntOf ((0 : Nat) : Int) xs.length := by rw [HCN.out]; omega
            refine Lib.hid ⟨?_, HM.out.low⟩
            rw [← e]; exact HM.out.row.mono (by omega)
          clear HM
          go_wp2
          go_ret
          unfold ServedR
          rw [if_pos hok.out]
          exact ⟨⟨gf, rfl, HO.out.1⟩, HO.out.2⟩

    · have r3 : (0 : Int) < (m : Int) := by omega
      go_enter Try.func18, Try.ntmps18
      go_wp2_with fail
      rw [← hW1]
      refine CT.out.mono ?_
      rintro e w2 ⟨rfl, rfl⟩
      clear hW1 CT
      go_wp2
      obtain ⟨W2, hW2⟩ : ∃ W2, W2 = w2.alloc (.cells (madeCells #[.int .i64 0] l.length) 3) := ⟨_, rfl⟩
      rw [← hW2] at HM0 ⊢
      generalize w2.heap.size = gf at *
      clear hW2 hmk hmf
      go_loopw [37] (fun i wr => ∃ j : Nat, i = .int .i64 j ∧ j ≤ m ∧ Hid (SeM w aq ts.length cq gf l.length (srv l ts cs (xs.take j)) wr)) (fun i _ => m - (intOf i).toNat)
      case atStart => exact ⟨0, rfl, by omega, HM0⟩
      case round =>
        clear HM0
        obtain ⟨j, rfl, hj, HM⟩ := hrel
        by_cases h : j < m
        · have hjx : j < xs.length := by omega
          obtain ⟨xa, rfl, e1⟩ := (HXS.out.below HM.out.low).at hjx
          rw [show xs.getD j 0 = xs[j] by simp [hjx]] at e1
          obtain ⟨i1, i2⟩ := HIX.out xs[j] (List.getElem_mem hjx)
          obtain ⟨i, hie⟩ : ∃ i : Nat, xs[j] = i := ⟨xs[j].toNat, by omega⟩
          have HXJ : Hid (xs[j].toNat = i) := Lib.hid (by omega)
          rw [hie] at e1 i1 i2
          have hit : i < ts.length := by omega
          have p0 : decide ((j : Int) < (m : Int)) = true := decide_eq_true (by omega)
          have HJX := Lib.hid hjx
          have hm0 := mix_zero l ts cs xs j
          have HM1 : Hid (SeM w aq ts.length cq gf l.length (mix l ts cs xs j 0) wr) := by rw [hm0]; exact HM
          clear HM hm0 hie
          go_wp2
          go_loopw [43] (fun kk wy => ∃ k : Nat, kk = .int .i64 k ∧ k ≤ l.length ∧ Hid (SeM w aq ts.length cq gf l.length (mix l ts cs xs j k) wy)) (fun kk _ => l.length - (intOf kk).toNat)
          case atStart => exact ⟨0, rfl, by omega, HM1⟩
          case round =>
            clear HM1
            obtain ⟨k, rfl, hk, HM⟩ := hrel
            by_cases hkl : k < l.length
            · have low := HM.out.low
              obtain ⟨y, rfl, s1, s2⟩ := (HX.out.below low).at hkl
              obtain ⟨z, rfl, hrq⟩ := (HQ.out.below low).at hit
              obtain ⟨xc, rfl, hcc⟩ := (HCS.out.below low).at (show i < cs.length by rw [HLN.out]; exact hit)
              have htk : ts.getD i default = ts[i] := by simp [hit]
              have r1 := hrq.c1
              rw [← htk] at r1
              have b0 : wr.cell? ⟨w.heap.size, 0, none⟩ = some (.slice (some z) ts.length cq) := HM.out.b6.cell 0
              have hst := servedAt_take (ts := ts) (cs := cs) (t := l[k].1) HJX.out
              rw [HXJ.out] at hst
              have hma := mix_at l ts cs xs j hkl 0
              have hms := mix_set l ts cs xs j hkl
              have hmk := fun he => mix_keep l ts cs xs j hkl he
              have hbb := servedAt_le (ts := ts) (cs := cs) (t := l[k].1) (M := 1125899906842624) (by omega) HCB.out (xs.take j)
              have hlt : (xs.take j).length ≤ 100 := by rw [List.length_take]; omega
              have hci : -1125899906842624 ≤ cs.getD i 0 ∧ cs.getD i 0 ≤ 1125899906842624 := by
                have hic : i < cs.length := by rw [HLN.out]; exact hit
                have := HCB.out _ (List.getElem_mem hic)
                simpa [hic] using this
              have p1 : decide ((k : Int) < (l.length : Int)) = true := decide_eq_true (by omega)
              have hic2 : i < cs.length := by rw [HLN.out]; exact hit
              have hic3 : (i : Int) < (cs.length : Int) := by omega
              have k0 : (0 : Int) ≤ (k : Int) := by omega
              have k1 : (k : Int) < (l.length : Int) := by omega
              have hwl : w.heap.size < wr.heap.size := HM.out.b6.lt
              by_cases he : ts.getD i default = l[k].1
              · rw [if_pos he] at hst
                have g1 := HM.out.row.at (j := k) (by rw [mix_len]; exact hkl) 0
                rw [hma] at g1
                rw [hst] at hms
                rw [he] at r1
                obtain ⟨C, hC⟩ : ∃ C, cs.getD i 0 = C := ⟨_, rfl⟩
                obtain ⟨D, hD⟩ : ∃ D, servedAt ts cs l[k].1 (xs.take j) = D := ⟨_, rfl⟩
                rw [hC] at hms hcc hci
                rw [hD] at hms g1 hbb
                have m1 : IntKind.i64.wrap (D + C) = D + C := IntWalk.i64_in _ (by omega)
                have HMS := Lib.hid hms
                obtain ⟨s, hs⟩ : ∃ s, l[k] = s := ⟨_, rfl⟩
                rw [hs] at r1 s1 s2
                obtain ⟨t, n2⟩ := s
                dsimp only at r1 s1 s2
                have q := eq_str (rfl : t = t)
                replace r1 := below_keep (below_alloc (Below.refl wr.heap.size wr) (.cells #[.string t, .int .i64 n2] 56)) r1
                have HF := Lib.hid (And.intro g1 hcc)
                clear hma hms hmk hst hbb hlt hci he htk hrq hC hD hs low g1 hcc
                go_wp2
                go_quiet (fail)
                go_wp2
                obtain ⟨W2, hW2⟩ : ∃ W2, W2 = (wr.alloc (.cells #[.string t, .int .i64 n2] 56)).drewN nq := ⟨_, rfl⟩
                have hb2 : Below wr.heap.size wr W2 := by rw [hW2]; exact below_drewN (below_alloc (Below.refl _ _) _) _
                have HM2 := Lib.hid (HM.out.below hb2)
                rw [← hW2]
                clear hW2
                obtain ⟨g1, hcc⟩ := HF.out
                have KK : Hid (∀ wx, Below W2.heap.size W2 wx → Below W2.heap.size W2 wx ∧ wx.cell? ⟨gf, k, none⟩ = some (.int .i64 D) ∧ wx.cell? (xc.add i) = some (.int .i64 C) ∧ (∀ j, wx.frozen? ⟨gf, j, none⟩ = false)) := Lib.hid fun wx hb => ⟨hb, below_keep (Below.next hb2 hb) g1, below_keep (Below.next hb2 hb) hcc, fun j => (HM2.out.below hb).row.free j⟩
                have S0 := KK.out W2.drew (Below.refl _ _).drew
                clear g1 hcc hb2 r1 s1 s2 b0
                refine start_ (n := 11) (S := (fun wx => Below W2.heap.size W2 wx ∧ wx.cell? ⟨gf, k, none⟩ = some (.int .i64 D) ∧ wx.cell? (xc.add i) = some (.int .i64 C) ∧ (∀ j, wx.frozen? ⟨gf, j, none⟩ = false))) (ds := [10]) #[false, false, false, false, false, false, false, false, false, false, false] (by kernel_rfl) rfl rfl S0 (fun hHeld => ?_)
                refine pure_ (i := 0) (N := some 56) (v := ?_) (a' := ?_) #[true, false, false, false, false, false, false, false, false, false, false] rfl rfl (by kernel_rfl) (fun _ _ _ h => h) (Or.inl ⟨by rfl, ?_⟩) ?_ ?_
                rotate_left
                · intro w'
                  go_simp
                  try with_reducible rfl
                rotate_left
                · simp only [Act.put, List.setIfInBounds_toArray, List.set_cons_zero, List.set_cons_succ]
                  rfl
                refine pure_ (i := 1) (N := some 57) (v := ?_) (a' := ?_) #[true, true, false, false, false, false, false, false, false, false, false] rfl rfl (by kernel_rfl) (fun _ _ _ h => h) (Or.inl ⟨by rfl, ?_⟩) ?_ ?_
                rotate_left
                · intro w'
                  go_simp
                  try with_reducible rfl
                rotate_left
                · simp only [Act.put, List.setIfInBounds_toArray, List.set_cons_zero, List.set_cons_succ]
                  rfl
                refine pure_ (i := 2) (N := some 58) (v := ?_) (a' := ?_) #[true, true, true, false, false, false, false, false, false, false, false] rfl rfl (by kernel_rfl) (fun _ _ _ h => h) (Or.inl ⟨by rfl, ?_⟩) ?_ ?_
                rotate_left
                · intro w'
                  go_simp
                  try with_reducible rfl
                rotate_left
                · simp only [Act.put, List.setIfInBounds_toArray, List.set_cons_zero, List.set_cons_succ]
                  rfl
                refine take_ (i := 3) (N := some 59) (v := ?_) (a' := ?_) #[true, true, true, true, false, false, false, false, false, false, false] rfl rfl (by kernel_rfl) (fun _ _ _ h => h) (Or.inl ⟨by rfl, ?_⟩) hHeld ?_ ?_
                rotate_left
                · rintro w' ⟨s0, s1, s2, s3⟩
                  go_simp
                  try with_reducible rfl
                rotate_left
                · simp only [Act.put, List.setIfInBounds_toArray, List.set_cons_zero, List.set_cons_succ]
                  rfl
                refine pure_ (i := 4) (N := some 60) (v := ?_) (a' := ?_) #[true, true, true, true, true, false, false, false, false, false, false] rfl rfl (by kernel_rfl) (fun _ _ _ h => h) (Or.inl ⟨by rfl, ?_⟩) ?_ ?_
                rotate_left
                · intro w'
                  go_simp
                  try with_reducible rfl
                rotate_left
                · simp only [Act.put, List.setIfInBounds_toArray, List.set_cons_zero, List.set_cons_succ]
                  rfl
                refine pure_ (i := 5) (N := some 61) (v := ?_) (a' := ?_) #[true, true, true, true, true, true, false, false, false, false, false] rfl rfl (by kernel_rfl) (fun _ _ _ h => h) (Or.inl ⟨by rfl, ?_⟩) ?_ ?_
                rotate_left
                · intro w'
                  go_simp
                  try with_reducible rfl
                rotate_left
                · simp only [Act.put, List.setIfInBounds_toArray, List.set_cons_zero, List.set_cons_succ]
                  rfl
                refine pure_ (i := 6) (N := some 62) (v := ?_) (a' := ?_) #[true, true, true, true, true, true, true, false, false, false, false] rfl rfl (by kernel_rfl) (fun _ _ _ h => h) (Or.inl ⟨by rfl, ?_⟩) ?_ ?_
                rotate_left
                · intro w'
                  go_simp
                  try with_reducible rfl
                rotate_left
                · simp only [Act.put, List.setIfInBounds_toArray, List.set_cons_zero, List.set_cons_succ]
                  rfl
                refine take_ (i := 7) (N := some 63) (v := ?_) (a' := ?_) #[true, true, true, true, true, true, true, true, false, false, false] rfl rfl (by kernel_rfl) (fun _ _ _ h => h) (Or.inl ⟨by rfl, ?_⟩) hHeld ?_ ?_
                rotate_left
                · rintro w' ⟨s0, s1, s2, s3⟩
                  go_simp
                  try with_reducible rfl
                rotate_left
                · simp only [Act.put, List.setIfInBounds_toArray, List.set_cons_zero, List.set_cons_succ]
                  rfl
                refine pure_ (i := 8) (N := some 64) (v := ?_) (a' := ?_) #[true, true, true, true, true, true, true, true, true, false, false] rfl rfl (by kernel_rfl) (fun _ _ _ h => h) (Or.inl ⟨by rfl, ?_⟩) ?_ ?_
                rotate_left
                · intro w'
                  go_simp
                  try with_reducible rfl
                rotate_left
                · simp only [Act.put, List.setIfInBounds_toArray, List.set_cons_zero, List.set_cons_succ]
                  rfl
                refine pure_ (i := 9) (N := some 65) (v := ?_) (a' := ?_) #[true, true, true, true, true, true, true, true, true, true, false] rfl rfl (by kernel_rfl) (fun _ _ _ h => h) (Or.inl ⟨by rfl, ?_⟩) ?_ ?_
                rotate_left
                · intro w'
                  go_simp
                  try with_reducible rfl
                rotate_left
                · simp only [Act.put, List.setIfInBounds_toArray, List.set_cons_zero, List.set_cons_succ]
                  rfl
                refine last_ (i := 10) (N := none) #[true, true, true, true, true, true, true, true, true, true, true] rfl rfl (by kernel_rfl) (by decide) (fun K hK => ?_)
                go_simp
                refine hK.out _ _ ?_
                clear hK K
                try simp only [Act.put, List.setIfInBounds_toArray, List.set_cons_zero, List.set_cons_succ]
                refine done_ (by kernel_rfl) ?_
                have HN : Hid (SeM w (some z) ts.length cq gf l.length (mix l ts cs xs j (k + 1)) (W2.setCell ⟨gf, k, none⟩ (.int .i64 (D + C))).drew) := by
                  rw [← HMS.out]
                  exact Lib.hid ((HM2.out.set k (D + C)).below (Below.refl _ _).drew)
                go_wp2
                go_roundw
                case rel => exact ⟨k + 1, by go_num, by omega, HN⟩
                case measure => simp [intOf]; omega
              · rw [if_neg he, Int.add_zero] at hst
                have HMK := Lib.hid (hmk hst)
                have hne : l[k].1 ≠ ts.getD i default := fun h => he h.symm
                have q := ne_str hne
                obtain ⟨u, hu⟩ : ∃ u, ts.getD i default = u := ⟨_, rfl⟩
                rw [hu] at r1 q
                obtain ⟨s, hs⟩ : ∃ s, l[k] = s := ⟨_, rfl⟩
                rw [hs] at q s1 s2
                obtain ⟨t, n2⟩ := s
                dsimp only at q s1 s2
                have Hm := Lib.hid HM
                replace r1 := below_keep (below_alloc (Below.refl wr.heap.size wr) (.cells #[.string t, .int .i64 n2] 56)) r1
                clear hma hms hmk hst hbb hlt hci he htk hrq hu hs low hcc hne
                go_wp2
                go_quiet (fail)
                go_wp2
                go_roundw
                case rel => exact ⟨k + 1, by go_num, by omega, by rw [← HMK.out]; exact Lib.hid (Hm.out.out.below (below_drewN (below_alloc (Below.refl _ _) _) _))⟩
                case measure => simp [intOf]; omega
            · have p1 : decide ((k : Int) < (l.length : Int)) = false := decide_eq_false (by omega)
              have HN : Hid (SeM w aq ts.length cq gf l.length (srv l ts cs (xs.take (j + 1))) wr) := by
                have e : k = l.length := by omega
                have := HM.out
                rw [e, mix_all] at this
                exact Lib.hid this
              clear HM
              go_wp2
              go_roundw
              case rel => exact ⟨j + 1, by go_num, by omega, HN⟩
              case measure => simp [intOf]; omega
        · have p0 : decide ((j : Int) < (m : Int)) = false := decide_eq_false (by omega)
          have HO : Hid (RowI wr w.heap.size gf l.length (srv l ts cs (xs.take (cntOf (m : Int) xs.length))) ∧ Below w.heap.size w wr) := by
            have e : j = cntOf (m : Int) xs.length := by rw [HCN.out]; omega
            refine Lib.hid ⟨?_, HM.out.low⟩
            rw [← e]; exact HM.out.row.mono (by omega)
          clear HM
          go_wp2
          go_ret
          unfold ServedR
          rw [if_pos hok.out]
          exact ⟨⟨gf, rfl, HO.out.1⟩, HO.out.2⟩

  case neg =>
    have HCN : Hid (cntOf n xs.length = xs.length) := Lib.hid (by unfold cntOf; omega)
    have hm : (xs.length : Int) ≤ (cx : Int) := by omega
    have r1 : (xs.length : Int) < n := by omega
    by_cases hz : xs.length = 0
    · have r2 : ¬ (0 < (xs.length : Int)) := by omega
      have hm0 : (0 : Int) ≤ (cx : Int) := by omega
      replace HCN : Hid (cntOf n xs.length = 0) := Lib.hid (by rw [HCN.out]; exact hz)
      clear hz
      go_enter Try.func18, Try.ntmps18
      go_wp2_with fail
      rw [← hW1]
      refine CT.out.mono ?_
      rintro e w2 ⟨rfl, rfl⟩
      clear hW1 CT
      go_wp2
      obtain ⟨W2, hW2⟩ : ∃ W2, W2 = w2.alloc (.cells (madeCells #[.int .i64 0] l.length) 3) := ⟨_, rfl⟩
      rw [← hW2] at HM0 ⊢
      generalize w2.heap.size = gf at *
      clear hW2 hmk hmf
      go_loopw [37] (fun i wr => ∃ j : Nat, i = .int .i64 j ∧ j ≤ 0 ∧ Hid (SeM w aq ts.length cq gf l.length (srv l ts cs (xs.take j)) wr)) (fun i _ => 0 - (intOf i).toNat)
      case atStart => exact ⟨0, rfl, by omega, HM0⟩
      case round =>
        clear HM0
        obtain ⟨j, rfl, hj, HM⟩ := hrel
        by_cases h : j < 0
        · exact absurd h (by omega)
        · have p0 : decide ((j : Int) < (0 : Int)) = false := decide_eq_false (by omega)
          have HO : Hid (RowI wr w.heap.size gf l.length (srv l ts cs (xs.take (cntOf n xs.length))) ∧ Below w.heap.size w wr) := by
            have e : j = cntOf n xs.length := by rw [HCN.out]; omega
            refine Lib.hid ⟨?_, HM.out.low⟩
            rw [← e]; exact HM.out.row.mono (by omega)
          clear HM
          go_wp2
          go_ret
          unfold ServedR
          rw [if_pos hok.out]
          exact ⟨⟨gf, rfl, HO.out.1⟩, HO.out.2⟩

    · have r3 : (0 : Int) < (xs.length : Int) := by omega
      go_enter Try.func18, Try.ntmps18
      go_wp2_with fail
      rw [← hW1]
      refine CT.out.mono ?_
      rintro e w2 ⟨rfl, rfl⟩
      clear hW1 CT
      go_wp2
      obtain ⟨W2, hW2⟩ : ∃ W2, W2 = w2.alloc (.cells (madeCells #[.int .i64 0] l.length) 3) := ⟨_, rfl⟩
      rw [← hW2] at HM0 ⊢
      generalize w2.heap.size = gf at *
      clear hW2 hmk hmf
      go_loopw [37] (fun i wr => ∃ j : Nat, i = .int .i64 j ∧ j ≤ xs.length ∧ Hid (SeM w aq ts.length cq gf l.length (srv l ts cs (xs.take j)) wr)) (fun i _ => xs.length - (intOf i).toNat)
      case atStart => exact ⟨0, rfl, by omega, HM0⟩
      case round =>
        clear HM0
        obtain ⟨j, rfl, hj, HM⟩ := hrel
        by_cases h : j < xs.length
        · have hjx : j < xs.length := by omega
          obtain ⟨xa, rfl, e1⟩ := (HXS.out.below HM.out.low).at hjx
          rw [show xs.getD j 0 = xs[j] by simp [hjx]] at e1
          obtain ⟨i1, i2⟩ := HIX.out xs[j] (List.getElem_mem hjx)
          obtain ⟨i, hie⟩ : ∃ i : Nat, xs[j] = i := ⟨xs[j].toNat, by omega⟩
          have HXJ : Hid (xs[j].toNat = i) := Lib.hid (by omega)
          rw [hie] at e1 i1 i2
          have hit : i < ts.length := by omega
          have p0 : decide ((j : Int) < (xs.length : Int)) = true := decide_eq_true (by omega)
          have HJX := Lib.hid hjx
          have hm0 := mix_zero l ts cs xs j
          have HM1 : Hid (SeM w aq ts.length cq gf l.length (mix l ts cs xs j 0) wr) := by rw [hm0]; exact HM
          clear HM hm0 hie
          go_wp2
          go_loopw [43] (fun kk wy => ∃ k : Nat, kk = .int .i64 k ∧ k ≤ l.length ∧ Hid (SeM w aq ts.length cq gf l.length (mix l ts cs xs j k) wy)) (fun kk _ => l.length - (intOf kk).toNat)
          case atStart => exact ⟨0, rfl, by omega, HM1⟩
          case round =>
            clear HM1
            obtain ⟨k, rfl, hk, HM⟩ := hrel
            by_cases hkl : k < l.length
            · have low := HM.out.low
              obtain ⟨y, rfl, s1, s2⟩ := (HX.out.below low).at hkl
              obtain ⟨z, rfl, hrq⟩ := (HQ.out.below low).at hit
              obtain ⟨xc, rfl, hcc⟩ := (HCS.out.below low).at (show i < cs.length by rw [HLN.out]; exact hit)
              have htk : ts.getD i default = ts[i] := by simp [hit]
              have r1 := hrq.c1
              rw [← htk] at r1
              have b0 : wr.cell? ⟨w.heap.size, 0, none⟩ = some (.slice (some z) ts.length cq) := HM.out.b6.cell 0
              have hst := servedAt_take (ts := ts) (cs := cs) (t := l[k].1) HJX.out
              rw [HXJ.out] at hst
              have hma := mix_at l ts cs xs j hkl 0
              have hms := mix_set l ts cs xs j hkl
              have hmk := fun he => mix_keep l ts cs xs j hkl he
              have hbb := servedAt_le (ts := ts) (cs := cs) (t := l[k].1) (M := 1125899906842624) (by omega) HCB.out (xs.take j)
              have hlt : (xs.take j).length ≤ 100 := by rw [List.length_take]; omega
              have hci : -1125899906842624 ≤ cs.getD i 0 ∧ cs.getD i 0 ≤ 1125899906842624 := by
                have hic : i < cs.length := by rw [HLN.out]; exact hit
                have := HCB.out _ (List.getElem_mem hic)
                simpa [hic] using this
              have p1 : decide ((k : Int) < (l.length : Int)) = true := decide_eq_true (by omega)
              have hic2 : i < cs.length := by rw [HLN.out]; exact hit
              have hic3 : (i : Int) < (cs.length : Int) := by omega
              have k0 : (0 : Int) ≤ (k : Int) := by omega
              have k1 : (k : Int) < (l.length : Int) := by omega
              have hwl : w.heap.size < wr.heap.size := HM.out.b6.lt
              by_cases he : ts.getD i default = l[k].1
              · rw [if_pos he] at hst
                have g1 := HM.out.row.at (j := k) (by rw [mix_len]; exact hkl) 0
                rw [hma] at g1
                rw [hst] at hms
                rw [he] at r1
                obtain ⟨C, hC⟩ : ∃ C, cs.getD i 0 = C := ⟨_, rfl⟩
                obtain ⟨D, hD⟩ : ∃ D, servedAt ts cs l[k].1 (xs.take j) = D := ⟨_, rfl⟩
                rw [hC] at hms hcc hci
                rw [hD] at hms g1 hbb
                have m1 : IntKind.i64.wrap (D + C) = D + C := IntWalk.i64_in _ (by omega)
                have HMS := Lib.hid hms
                obtain ⟨s, hs⟩ : ∃ s, l[k] = s := ⟨_, rfl⟩
                rw [hs] at r1 s1 s2
                obtain ⟨t, n2⟩ := s
                dsimp only at r1 s1 s2
                have q := eq_str (rfl : t = t)
                replace r1 := below_keep (below_alloc (Below.refl wr.heap.size wr) (.cells #[.string t, .int .i64 n2] 56)) r1
                have HF := Lib.hid (And.intro g1 hcc)
                clear hma hms hmk hst hbb hlt hci he htk hrq hC hD hs low g1 hcc
                go_wp2
                go_quiet (fail)
                go_wp2
                obtain ⟨W2, hW2⟩ : ∃ W2, W2 = (wr.alloc (.cells #[.string t, .int .i64 n2] 56)).drewN nq := ⟨_, rfl⟩
                have hb2 : Below wr.heap.size wr W2 := by rw [hW2]; exact below_drewN (below_alloc (Below.refl _ _) _) _
                have HM2 := Lib.hid (HM.out.below hb2)
                rw [← hW2]
                clear hW2
                obtain ⟨g1, hcc⟩ := HF.out
                have KK : Hid (∀ wx, Below W2.heap.size W2 wx → Below W2.heap.size W2 wx ∧ wx.cell? ⟨gf, k, none⟩ = some (.int .i64 D) ∧ wx.cell? (xc.add i) = some (.int .i64 C) ∧ (∀ j, wx.frozen? ⟨gf, j, none⟩ = false)) := Lib.hid fun wx hb => ⟨hb, below_keep (Below.next hb2 hb) g1, below_keep (Below.next hb2 hb) hcc, fun j => (HM2.out.below hb).row.free j⟩
                have S0 := KK.out W2.drew (Below.refl _ _).drew
                clear g1 hcc hb2 r1 s1 s2 b0
                refine start_ (n := 11) (S := (fun wx => Below W2.heap.size W2 wx ∧ wx.cell? ⟨gf, k, none⟩ = some (.int .i64 D) ∧ wx.cell? (xc.add i) = some (.int .i64 C) ∧ (∀ j, wx.frozen? ⟨gf, j, none⟩ = false))) (ds := [10]) #[false, false, false, false, false, false, false, false, false, false, false] (by kernel_rfl) rfl rfl S0 (fun hHeld => ?_)
                refine pure_ (i := 0) (N := some 56) (v := ?_) (a' := ?_) #[true, false, false, false, false, false, false, false, false, false, false] rfl rfl (by kernel_rfl) (fun _ _ _ h => h) (Or.inl ⟨by rfl, ?_⟩) ?_ ?_
                rotate_left
                · intro w'
                  go_simp
                  try with_reducible rfl
                rotate_left
                · simp only [Act.put, List.setIfInBounds_toArray, List.set_cons_zero, List.set_cons_succ]
                  rfl
                refine pure_ (i := 1) (N := some 57) (v := ?_) (a' := ?_) #[true, true, false, false, false, false, false, false, false, false, false] rfl rfl (by kernel_rfl) (fun _ _ _ h => h) (Or.inl ⟨by rfl, ?_⟩) ?_ ?_
                rotate_left
                · intro w'
                  go_simp
                  try with_reducible rfl
                rotate_left
                · simp only [Act.put, List.setIfInBounds_toArray, List.set_cons_zero, List.set_cons_succ]
                  rfl
                refine pure_ (i := 2) (N := some 58) (v := ?_) (a' := ?_) #[true, true, true, false, false, false, false, false, false, false, false] rfl rfl (by kernel_rfl) (fun _ _ _ h => h) (Or.inl ⟨by rfl, ?_⟩) ?_ ?_
                rotate_left
                · intro w'
                  go_simp
                  try with_reducible rfl
                rotate_left
                · simp only [Act.put, List.setIfInBounds_toArray, List.set_cons_zero, List.set_cons_succ]
                  rfl
                refine take_ (i := 3) (N := some 59) (v := ?_) (a' := ?_) #[true, true, true, true, false, false, false, false, false, false, false] rfl rfl (by kernel_rfl) (fun _ _ _ h => h) (Or.inl ⟨by rfl, ?_⟩) hHeld ?_ ?_
                rotate_left
                · rintro w' ⟨s0, s1, s2, s3⟩
                  go_simp
                  try with_reducible rfl
                rotate_left
                · simp only [Act.put, List.setIfInBounds_toArray, List.set_cons_zero, List.set_cons_succ]
                  rfl
                refine pure_ (i := 4) (N := some 60) (v := ?_) (a' := ?_) #[true, true, true, true, true, false, false, false, false, false, false] rfl rfl (by kernel_rfl) (fun _ _ _ h => h) (Or.inl ⟨by rfl, ?_⟩) ?_ ?_
                rotate_left
                · intro w'
                  go_simp
                  try with_reducible rfl
                rotate_left
                · simp only [Act.put, List.setIfInBounds_toArray, List.set_cons_zero, List.set_cons_succ]
                  rfl
                refine pure_ (i := 5) (N := some 61) (v := ?_) (a' := ?_) #[true, true, true, true, true, true, false, false, false, false, false] rfl rfl (by kernel_rfl) (fun _ _ _ h => h) (Or.inl ⟨by rfl, ?_⟩) ?_ ?_
                rotate_left
                · intro w'
                  go_simp
                  try with_reducible rfl
                rotate_left
                · simp only [Act.put, List.setIfInBounds_toArray, List.set_cons_zero, List.set_cons_succ]
                  rfl
                refine pure_ (i := 6) (N := some 62) (v := ?_) (a' := ?_) #[true, true, true, true, true, true, true, false, false, false, false] rfl rfl (by kernel_rfl) (fun _ _ _ h => h) (Or.inl ⟨by rfl, ?_⟩) ?_ ?_
                rotate_left
                · intro w'
                  go_simp
                  try with_reducible rfl
                rotate_left
                · simp only [Act.put, List.setIfInBounds_toArray, List.set_cons_zero, List.set_cons_succ]
                  rfl
                refine take_ (i := 7) (N := some 63) (v := ?_) (a' := ?_) #[true, true, true, true, true, true, true, true, false, false, false] rfl rfl (by kernel_rfl) (fun _ _ _ h => h) (Or.inl ⟨by rfl, ?_⟩) hHeld ?_ ?_
                rotate_left
                · rintro w' ⟨s0, s1, s2, s3⟩
                  go_simp
                  try with_reducible rfl
                rotate_left
                · simp only [Act.put, List.setIfInBounds_toArray, List.set_cons_zero, List.set_cons_succ]
                  rfl
                refine pure_ (i := 8) (N := some 64) (v := ?_) (a' := ?_) #[true, true, true, true, true, true, true, true, true, false, false] rfl rfl (by kernel_rfl) (fun _ _ _ h => h) (Or.inl ⟨by rfl, ?_⟩) ?_ ?_
                rotate_left
                · intro w'
                  go_simp
                  try with_reducible rfl
                rotate_left
                · simp only [Act.put, List.setIfInBounds_toArray, List.set_cons_zero, List.set_cons_succ]
                  rfl
                refine pure_ (i := 9) (N := some 65) (v := ?_) (a' := ?_) #[true, true, true, true, true, true, true, true, true, true, false] rfl rfl (by kernel_rfl) (fun _ _ _ h => h) (Or.inl ⟨by rfl, ?_⟩) ?_ ?_
                rotate_left
                · intro w'
                  go_simp
                  try with_reducible rfl
                rotate_left
                · simp only [Act.put, List.setIfInBounds_toArray, List.set_cons_zero, List.set_cons_succ]
                  rfl
                refine last_ (i := 10) (N := none) #[true, true, true, true, true, true, true, true, true, true, true] rfl rfl (by kernel_rfl) (by decide) (fun K hK => ?_)
                go_simp
                refine hK.out _ _ ?_
                clear hK K
                try simp only [Act.put, List.setIfInBounds_toArray, List.set_cons_zero, List.set_cons_succ]
                refine done_ (by kernel_rfl) ?_
                have HN : Hid (SeM w (some z) ts.length cq gf l.length (mix l ts cs xs j (k + 1)) (W2.setCell ⟨gf, k, none⟩ (.int .i64 (D + C))).drew) := by
                  rw [← HMS.out]
                  exact Lib.hid ((HM2.out.set k (D + C)).below (Below.refl _ _).drew)
                go_wp2
                go_roundw
                case rel => exact ⟨k + 1, by go_num, by omega, HN⟩
                case measure => simp [intOf]; omega
              · rw [if_neg he, Int.add_zero] at hst
                have HMK := Lib.hid (hmk hst)
                have hne : l[k].1 ≠ ts.getD i default := fun h => he h.symm
                have q := ne_str hne
                obtain ⟨u, hu⟩ : ∃ u, ts.getD i default = u := ⟨_, rfl⟩
                rw [hu] at r1 q
                obtain ⟨s, hs⟩ : ∃ s, l[k] = s := ⟨_, rfl⟩
                rw [hs] at q s1 s2
                obtain ⟨t, n2⟩ := s
                dsimp only at q s1 s2
                have Hxs.length := Lib.hid HM
                replace r1 := below_keep (below_alloc (Below.refl wr.heap.size wr) (.cells #[.string t, .int .i64 n2] 56)) r1
                clear hma hms hmk hst hbb hlt hci he htk hrq hu hs low hcc hne
                go_wp2
                go_quiet (fail)
                go_wp2
                go_roundw
                case rel => exact ⟨k + 1, by go_num, by omega, by rw [← HMK.out]; exact Lib.hid (Hxs.length.out.out.below (below_drewN (below_alloc (Below.refl _ _) _) _))⟩
                case measure => simp [intOf]; omega
            · have p1 : decide ((k : Int) < (l.length : Int)) = false := decide_eq_false (by omega)
              have HN : Hid (SeM w aq ts.length cq gf l.length (srv l ts cs (xs.take (j + 1))) wr) := by
                have e : k = l.length := by omega
                have := HM.out
                rw [e, mix_all] at this
                exact Lib.hid this
              clear HM
              go_wp2
              go_roundw
              case rel => exact ⟨j + 1, by go_num, by omega, HN⟩
              case measure => simp [intOf]; omega
        · have p0 : decide ((j : Int) < (xs.length : Int)) = false := decide_eq_false (by omega)
          have HO : Hid (RowI wr w.heap.size gf l.length (srv l ts cs (xs.take (cntOf n xs.length))) ∧ Below w.heap.size w wr) := by
            have e : j = cntOf n xs.length := by rw [HCN.out]; omega
            refine Lib.hid ⟨?_, HM.out.low⟩
            rw [← e]; exact HM.out.row.mono (by omega)
          clear HM
          go_wp2
          go_ret
          unfold ServedR
          rw [if_pos hok.out]
          exact ⟨⟨gf, rfl, HO.out.1⟩, HO.out.2⟩


end Go.Proofs.Ytdfnpknekjgkiaa
