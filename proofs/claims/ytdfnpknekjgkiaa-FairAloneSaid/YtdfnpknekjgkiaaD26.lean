/- The reference's Next. -/
import Derived.Test.YtdfnpknekjgkiaaD25
import Derived.Test.YtdfnpknekjgkiaaWLast
namespace Go.Proofs.Ytdfnpknekjgkiaa
open Go.RowKit
open Go.Proofs.YtdfnpknekjgkiaaW.PrintLast
set_option linter.unusedVariables false
set_option linter.unusedSimpArgs false

theorem exOf_st {t : Int} {xs : List Int} {l : Shares} {n : Nat} {cs : List Int} {Q : Int} (h : ckOf l = 0) (h2 : ¬ stOk t xs l.length) : nxE t xs l n cs Q = 8 := by
  have : exOf t xs l n cs Q = 8 := by unfold exOf; rw [if_neg (fun k => k h), if_pos h2]
  unfold nxE; rw [this]; rfl
theorem exOf_ck {t : Int} {xs : List Int} {l : Shares} {n : Nat} {cs : List Int} {Q : Int} (h : ckOf l ≠ 0) : nxE t xs l n cs Q = ckOf l := by
  have : exOf t xs l n cs Q = ckOf l := by unfold exOf; rw [if_pos h]
  unfold nxE; rw [this, if_pos h]
theorem exOf_arg {t : Int} {xs : List Int} {l : Shares} {n : Nat} {cs : List Int} {Q : Int} (h : ckOf l = 0) (h2 : stOk t xs l.length) : exOf t xs l n cs Q = ckArg n cs Q := by
  unfold exOf; rw [if_neg (fun k => k h), if_neg (fun k => k h2)]
set_option maxRecDepth 100000 in
set_option maxHeartbeats 4000000 in
theorem rnext_any (t : Int) (xs : List Int) (l : Shares) (ts : List ByteArray) (cs : List Int) (Q : Int) (w : World) (ax aq al acs : Option Addr) (cx cq cl ccs : Nat)
    (hxs : Ints .i64 w ax xs) (hcx : xs.length ≤ cx) (hxn : ax = none → cx = 0) (hlx : xs.length ≤ 1000000) (hq : Rqs w aq ts) (hx : Shs w al l) (hcs : Ints .i64 w acs cs) (hc : l.length ≤ cl) (hl : l.length ≤ 1000000) (hcq : ts.length ≤ cq) (htl : ts.length ≤ 1000000) (hccs : cs.length ≤ ccs) (hcl : cs.length ≤ 1000000) :
    Calls Try.prog 24 #[.agg #[.int .i64 t, .slice ax xs.length cx], .slice al l.length cl, .slice aq ts.length cq, .slice acs cs.length ccs, .int .i64 Q] w (NextR t xs l ts cs Q w) := by
  obtain ⟨W1, hW1⟩ : ∃ W1, W1 = (w.alloc (.cells #[.int .i64 t, .slice ax xs.length cx] 35)).alloc (.cells #[.int .i64 0, .slice none 0 0] 35) := ⟨_, rfl⟩
  have hb1 : Below w.heap.size w W1 := by rw [hW1]; exact below_alloc (below_alloc (Below.refl _ _) _) _
  have A1 : Blk W1 w.heap.size 35 #[.int .i64 t, .slice ax xs.length cx] := by rw [hW1]; exact (Blk.new w 35 _).alloc _
  have B1 : Blk W1 (w.heap.size + 1) 35 #[.int .i64 0, .slice none 0 0] := by
    have := Blk.new (w.alloc (.cells #[.int .i64 t, .slice ax xs.length cx] 35)) 35 #[.int .i64 0, .slice none 0 0]
    simp only [World.size_alloc] at this; rw [hW1]; exact this
  have NW := Lib.hid (rnew_any l al cl W1 (hx.below hb1) hc hl)
  have CK : Hid (∀ wx, Below w.heap.size w wx → Calls Try.prog 28 #[.slice al l.length cl, .slice aq ts.length cq, .slice acs cs.length ccs, .int .i64 Q] wx fun e w' => e = .returned (.int .i64 (ckArg ts.length cs Q)) ∧ w' = wx) := Lib.hid fun wx hb => rcheck_any (.slice al l.length cl) ts.length aq cq Q cs acs ccs wx (hcs.below hb) hccs hcl htl
  have HB := Lib.hid (And.intro hb1 (And.intro A1 B1))
  have HXS := Lib.hid hxs
  clear A1 B1 hb1
  by_cases hck : ckOf l = 0
  case neg =>
    have HA : Hid (nxE t xs l ts.length cs Q = ckOf l) := Lib.hid (exOf_ck hck)
    have q : (ckOf l != 0) = true := by rw [bne_iff_ne]; exact hck
    have HN := Lib.hid hck
    obtain ⟨ck, hk⟩ : ∃ ck, ckOf l = ck := ⟨_, rfl⟩
    have HK := Lib.hid hk
    rw [hk] at q HA
    clear hck hk hx hq hcs hxs
    go_enter Try.func24, Try.ntmps24
    go_wp2_with fail
    rw [← hW1]
    clear hW1
    refine NW.out.mono ?_
    rintro e w2 hN
    unfold NewR at hN
    rw [if_neg HN.out, HK.out] at hN
    obtain ⟨rfl, hb2⟩ := hN
    obtain ⟨W3, hW3⟩ : ∃ W3, W3 = w2.alloc (.cells #[.int .i64 0, .slice none 0 0] 35) := ⟨_, rfl⟩
    have b03 : Below W1.heap.size W1 W3 := by rw [hW3]; exact below_alloc hb2 _
    have B2 := HB.out.2.2.below b03
    have C2 := HB.out.2.1.below b03
    have L2 := Below.next HB.out.1 b03
    have d0 : W3.cell? ⟨w.heap.size + 1, 0, none⟩ = some (.int .i64 0) := B2.cell 0
    have d1 : W3.cell? ⟨w.heap.size + 1, 1, none⟩ = some (.slice none 0 0) := B2.cell 1
    have d2 := fun j => B2.free j
    have d3 : W3.cell? ⟨w.heap.size, 0, none⟩ = some (.int .i64 t) := C2.cell 0
    have d4 : W3.cell? ⟨w.heap.size, 1, none⟩ = some (.slice ax xs.length cx) := C2.cell 1
    have d5 := fun j => C2.free j
    have hlt : w.heap.size + 1 < W3.heap.size := B2.lt
    have HM := Lib.hid (And.intro B2 L2)
    have HC := Lib.hid C2
    clear B2 L2 C2
    rw [hW3] at d0 d1 d3 d4 d2 hlt
    go_wp2
    rw [← hW3]
    obtain ⟨BA, LA⟩ := res_world (u := .int .i64 0) (v := .slice none 0 0) (HM.out.1) rfl (HM.out.2) (by omega : w.heap.size ≤ w.heap.size + 1)
    obtain ⟨W4, hW4⟩ : ∃ W4, W4 = ((W3.setCell ⟨w.heap.size + 1, 0, none⟩ (.int .i64 0)).setCell ⟨w.heap.size + 1, 1, none⟩ (.slice none 0 0)) := ⟨_, rfl⟩
    rw [← hW4] at BA LA ⊢
    have e0 : W4.cell? ⟨w.heap.size + 1, 0, none⟩ = some (.int .i64 0) := BA.cell 0
    have e1 : W4.cell? ⟨w.heap.size + 1, 1, none⟩ = some (.slice none 0 0) := BA.cell 1
    refine bodyPost_ret (v := .tuple #[.agg #[.int .i64 0, .slice none 0 0], .int .i64 0, .int .i64 ck]) (by simp [results, Try.results24, Try.f24, go_sem, e0, e1]) rfl ?_
    exact NextR.err HA.out (by rw [← HK.out]; exact HN.out) LA

  have HCK := Lib.hid hck
  have hl64 := ckOf_len hck
  clear hck
  have HX := Lib.hid hx
  have HQ := Lib.hid hq
  have HCS := Lib.hid hcs
  clear hx hq hcs hxs
  by_cases h1 : t < 0
  · have HA : Hid (nxE t xs l ts.length cs Q = 8) := Lib.hid (exOf_st HCK.out (fun h => by have := h.1.1; omega))
    have q1 : decide (t < 0) = true := decide_eq_true h1
    clear h1
    go_enter Try.func24, Try.ntmps24
    go_wp2_with fail
    rw [← hW1]
    clear hW1
    refine NW.out.mono ?_
    rintro e w2 hN
    unfold NewR at hN
    rw [if_pos HCK.out] at hN
    obtain ⟨⟨gn, rfl, hrow⟩, hb2⟩ := hN
    clear NW
    obtain ⟨W3, hW3⟩ : ∃ W3, W3 = w2.alloc (.cells #[.int .i64 l.length, .slice (some ⟨gn, 0, none⟩) (l.length + 1) (l.length + 1)] 35) := ⟨_, rfl⟩
    have b03 : Below W1.heap.size W1 W3 := by rw [hW3]; exact below_alloc hb2 _
    have B2 := HB.out.2.2.below b03
    have C2 := HB.out.2.1.below b03
    have L2 := Below.next HB.out.1 b03
    have X2 := HXS.out.below L2
    have d0 : W3.cell? ⟨w.heap.size + 1, 0, none⟩ = some (.int .i64 0) := B2.cell 0
    have d1 : W3.cell? ⟨w.heap.size + 1, 1, none⟩ = some (.slice none 0 0) := B2.cell 1
    have d2 := fun j => B2.free j
    have d3 : W3.cell? ⟨w.heap.size, 0, none⟩ = some (.int .i64 t) := C2.cell 0
    have d4 : W3.cell? ⟨w.heap.size, 1, none⟩ = some (.slice ax xs.length cx) := C2.cell 1
    have d5 := fun j => C2.free j
    have hlt : w.heap.size + 1 < W3.heap.size := B2.lt
    have HM := Lib.hid (And.intro B2 L2)
    have HC := Lib.hid C2
    clear B2 L2 C2

    clear b03 hb2 hrow
    rw [hW3] at d0 d1 d3 d4 d2 hlt
    go_wp2
    rw [← hW3]
    obtain ⟨BA, LA⟩ := res_world (u := .int .i64 0) (v := .slice none 0 0) (HM.out.1) rfl (HM.out.2) (by omega : w.heap.size ≤ w.heap.size + 1)
    obtain ⟨W4, hW4⟩ : ∃ W4, W4 = ((W3.setCell ⟨w.heap.size + 1, 0, none⟩ (.int .i64 0)).setCell ⟨w.heap.size + 1, 1, none⟩ (.slice none 0 0)) := ⟨_, rfl⟩
    rw [← hW4] at BA LA ⊢
    have e0 : W4.cell? ⟨w.heap.size + 1, 0, none⟩ = some (.int .i64 0) := BA.cell 0
    have e1 : W4.cell? ⟨w.heap.size + 1, 1, none⟩ = some (.slice none 0 0) := BA.cell 1
    refine bodyPost_ret (v := .tuple #[.agg #[.int .i64 0, .slice none 0 0], .int .i64 0, .int .i64 8]) (by simp [results, Try.results24, Try.f24, go_sem, e0, e1]) rfl ?_
    exact NextR.err HA.out (by decide) LA

  have q1 : decide (t < 0) = false := decide_eq_false h1
  by_cases h2 : t > (l.length : Int)
  · have HA : Hid (nxE t xs l ts.length cs Q = 8) := Lib.hid (exOf_st HCK.out (fun h => by have := h.1.2; omega))
    have q2 : decide (t > (l.length : Int)) = true := decide_eq_true h2
    clear h1 h2
    go_enter Try.func24, Try.ntmps24
    go_wp2_with fail
    rw [← hW1]
    clear hW1
    refine NW.out.mono ?_
    rintro e w2 hN
    unfold NewR at hN
    rw [if_pos HCK.out] at hN
    obtain ⟨⟨gn, rfl, hrow⟩, hb2⟩ := hN
    clear NW
    obtain ⟨W3, hW3⟩ : ∃ W3, W3 = w2.alloc (.cells #[.int .i64 l.length, .slice (some ⟨gn, 0, none⟩) (l.length + 1) (l.length + 1)] 35) := ⟨_, rfl⟩
    have b03 : Below W1.heap.size W1 W3 := by rw [hW3]; exact below_alloc hb2 _
    have B2 := HB.out.2.2.below b03
    have C2 := HB.out.2.1.below b03
    have L2 := Below.next HB.out.1 b03
    have X2 := HXS.out.below L2
    have d0 : W3.cell? ⟨w.heap.size + 1, 0, none⟩ = some (.int .i64 0) := B2.cell 0
    have d1 : W3.cell? ⟨w.heap.size + 1, 1, none⟩ = some (.slice none 0 0) := B2.cell 1
    have d2 := fun j => B2.free j
    have d3 : W3.cell? ⟨w.heap.size, 0, none⟩ = some (.int .i64 t) := C2.cell 0
    have d4 : W3.cell? ⟨w.heap.size, 1, none⟩ = some (.slice ax xs.length cx) := C2.cell 1
    have d5 := fun j => C2.free j
    have hlt : w.heap.size + 1 < W3.heap.size := B2.lt
    have HM := Lib.hid (And.intro B2 L2)
    have HC := Lib.hid C2
    clear B2 L2 C2

    clear b03 hb2 hrow
    rw [hW3] at d0 d1 d3 d4 d2 hlt
    go_wp2
    rw [← hW3]
    obtain ⟨BA, LA⟩ := res_world (u := .int .i64 0) (v := .slice none 0 0) (HM.out.1) rfl (HM.out.2) (by omega : w.heap.size ≤ w.heap.size + 1)
    obtain ⟨W4, hW4⟩ : ∃ W4, W4 = ((W3.setCell ⟨w.heap.size + 1, 0, none⟩ (.int .i64 0)).setCell ⟨w.heap.size + 1, 1, none⟩ (.slice none 0 0)) := ⟨_, rfl⟩
    rw [← hW4] at BA LA ⊢
    have e0 : W4.cell? ⟨w.heap.size + 1, 0, none⟩ = some (.int .i64 0) := BA.cell 0
    have e1 : W4.cell? ⟨w.heap.size + 1, 1, none⟩ = some (.slice none 0 0) := BA.cell 1
    refine bodyPost_ret (v := .tuple #[.agg #[.int .i64 0, .slice none 0 0], .int .i64 0, .int .i64 8]) (by simp [results, Try.results24, Try.f24, go_sem, e0, e1]) rfl ?_
    exact NextR.err HA.out (by decide) LA

  have q2 : decide (t > (l.length : Int)) = false := decide_eq_false h2
  by_cases h3 : xs.length ≠ l.length + 1
  · have HA : Hid (nxE t xs l ts.length cs Q = 8) := Lib.hid (exOf_st HCK.out (fun h => h3 h.2.1))
    have q3 : ((xs.length : Int) != (l.length : Int) + 1) = true := by rw [bne_iff_ne]; omega
    clear h1 h2 h3
    go_enter Try.func24, Try.ntmps24
    go_wp2_with fail
    rw [← hW1]
    clear hW1
    refine NW.out.mono ?_
    rintro e w2 hN
    unfold NewR at hN
    rw [if_pos HCK.out] at hN
    obtain ⟨⟨gn, rfl, hrow⟩, hb2⟩ := hN
    clear NW
    obtain ⟨W3, hW3⟩ : ∃ W3, W3 = w2.alloc (.cells #[.int .i64 l.length, .slice (some ⟨gn, 0, none⟩) (l.length + 1) (l.length + 1)] 35) := ⟨_, rfl⟩
    have b03 : Below W1.heap.size W1 W3 := by rw [hW3]; exact below_alloc hb2 _
    have B2 := HB.out.2.2.below b03
    have C2 := HB.out.2.1.below b03
    have L2 := Below.next HB.out.1 b03
    have X2 := HXS.out.below L2
    have d0 : W3.cell? ⟨w.heap.size + 1, 0, none⟩ = some (.int .i64 0) := B2.cell 0
    have d1 : W3.cell? ⟨w.heap.size + 1, 1, none⟩ = some (.slice none 0 0) := B2.cell 1
    have d2 := fun j => B2.free j
    have d3 : W3.cell? ⟨w.heap.size, 0, none⟩ = some (.int .i64 t) := C2.cell 0
    have d4 : W3.cell? ⟨w.heap.size, 1, none⟩ = some (.slice ax xs.length cx) := C2.cell 1
    have d5 := fun j => C2.free j
    have hlt : w.heap.size + 1 < W3.heap.size := B2.lt
    have HM := Lib.hid (And.intro B2 L2)
    have HC := Lib.hid C2
    clear B2 L2 C2

    clear b03 hb2 hrow
    rw [hW3] at d0 d1 d3 d4 d2 hlt
    go_wp2
    rw [← hW3]
    obtain ⟨BA, LA⟩ := res_world (u := .int .i64 0) (v := .slice none 0 0) (HM.out.1) rfl (HM.out.2) (by omega : w.heap.size ≤ w.heap.size + 1)
    obtain ⟨W4, hW4⟩ : ∃ W4, W4 = ((W3.setCell ⟨w.heap.size + 1, 0, none⟩ (.int .i64 0)).setCell ⟨w.heap.size + 1, 1, none⟩ (.slice none 0 0)) := ⟨_, rfl⟩
    rw [← hW4] at BA LA ⊢
    have e0 : W4.cell? ⟨w.heap.size + 1, 0, none⟩ = some (.int .i64 0) := BA.cell 0
    have e1 : W4.cell? ⟨w.heap.size + 1, 1, none⟩ = some (.slice none 0 0) := BA.cell 1
    refine bodyPost_ret (v := .tuple #[.agg #[.int .i64 0, .slice none 0 0], .int .i64 0, .int .i64 8]) (by simp [results, Try.results24, Try.f24, go_sem, e0, e1]) rfl ?_
    exact NextR.err HA.out (by decide) LA

  have q3 : ((xs.length : Int) != (l.length : Int) + 1) = false := by rw [bne_eq_false_iff_eq]; omega
  have HST : Hid (stOk t xs l.length ↔ badIn 1125899906842624 xs = false) := Lib.hid ⟨fun h => h.2.2, fun h => ⟨⟨by omega, by omega⟩, by omega, h⟩⟩
  clear h1 h2 h3
  go_enter Try.func24, Try.ntmps24
  go_wp2_with fail
  rw [← hW1]
  clear hW1
  refine NW.out.mono ?_
  rintro e w2 hN
  unfold NewR at hN
  rw [if_pos HCK.out] at hN
  obtain ⟨⟨gn, rfl, hrow⟩, hb2⟩ := hN
  clear NW
  obtain ⟨W3, hW3⟩ : ∃ W3, W3 = w2.alloc (.cells #[.int .i64 l.length, .slice (some ⟨gn, 0, none⟩) (l.length + 1) (l.length + 1)] 35) := ⟨_, rfl⟩
  have b03 : Below W1.heap.size W1 W3 := by rw [hW3]; exact below_alloc hb2 _
  have B2 := HB.out.2.2.below b03
  have C2 := HB.out.2.1.below b03
  have L2 := Below.next HB.out.1 b03
  have X2 := HXS.out.below L2
  have d0 : W3.cell? ⟨w.heap.size + 1, 0, none⟩ = some (.int .i64 0) := B2.cell 0
  have d1 : W3.cell? ⟨w.heap.size + 1, 1, none⟩ = some (.slice none 0 0) := B2.cell 1
  have d2 := fun j => B2.free j
  have d3 : W3.cell? ⟨w.heap.size, 0, none⟩ = some (.int .i64 t) := C2.cell 0
  have d4 : W3.cell? ⟨w.heap.size, 1, none⟩ = some (.slice ax xs.length cx) := C2.cell 1
  have d5 := fun j => C2.free j
  have hlt : w.heap.size + 1 < W3.heap.size := B2.lt
  have HM := Lib.hid (And.intro B2 L2)
  have HC := Lib.hid C2
  clear B2 L2 C2

  clear b03 hb2 hrow
  rw [hW3] at d0 d1 d3 d4 d2 hlt
  go_wp2
  rw [← hW3]
  rw [← hW3] at d0 d1 d3 d4 d2 hlt
  clear hW3
  go_loopw [15] (fun i wr => ∃ k : Nat, i = .int .i64 k ∧ k ≤ xs.length ∧ Hid (∀ j (h : j < k) (h2 : j < xs.length), ¬ (xs[j] < 0 ∨ 1125899906842624 < xs[j])) ∧ wr = W3) (fun i _ => xs.length - (intOf i).toNat)
  case atStart => exact ⟨0, rfl, by omega, Lib.hid fun j h => absurd h (by omega), rfl⟩
  case round =>
    obtain ⟨k, rfl, hk, HQ2, rfl⟩ := hrel
    by_cases h : k < xs.length
    · obtain ⟨x, rfl, hcell⟩ := X2.at h
      rw [show xs.getD k 0 = xs[k] by simp [h]] at hcell
      by_cases hb : xs[k] < 0 ∨ 1125899906842624 < xs[k]
      · have HA : Hid (nxE t xs l ts.length cs Q = 8) := Lib.hid (exOf_st HCK.out (fun hs => by have := HST.out.1 hs; rw [badIn_at h hb] at this; cases this))
        by_cases h0 : xs[k] < 0
        · have r1 : decide (xs[k] < 0) = true := decide_eq_true h0
          generalize xs[k] = v at *
          clear hb h0
          go_wp2
          obtain ⟨BA, LA⟩ := res_world (u := .int .i64 0) (v := .slice none 0 0) (HM.out.1) rfl (HM.out.2) (by omega : w.heap.size ≤ w.heap.size + 1)
          obtain ⟨W4, hW4⟩ : ∃ W4, W4 = ((wr.setCell ⟨w.heap.size + 1, 0, none⟩ (.int .i64 0)).setCell ⟨w.heap.size + 1, 1, none⟩ (.slice none 0 0)) := ⟨_, rfl⟩
          rw [← hW4] at BA LA ⊢
          have e0 : W4.cell? ⟨w.heap.size + 1, 0, none⟩ = some (.int .i64 0) := BA.cell 0
          have e1 : W4.cell? ⟨w.heap.size + 1, 1, none⟩ = some (.slice none 0 0) := BA.cell 1
          refine bodyPost_ret (v := .tuple #[.agg #[.int .i64 0, .slice none 0 0], .int .i64 0, .int .i64 8]) (by simp [results, Try.results24, Try.f24, go_sem, e0, e1]) rfl ?_
          exact NextR.err HA.out (by decide) LA

        · have r1 : decide (xs[k] < 0) = false := decide_eq_false h0
          have r2 : decide (xs[k] > 1125899906842624) = true := decide_eq_true (by omega)
          generalize xs[k] = v at *
          clear hb h0
          go_wp2
          obtain ⟨BA, LA⟩ := res_world (u := .int .i64 0) (v := .slice none 0 0) (HM.out.1) rfl (HM.out.2) (by omega : w.heap.size ≤ w.heap.size + 1)
          obtain ⟨W4, hW4⟩ : ∃ W4, W4 = ((wr.setCell ⟨w.heap.size + 1, 0, none⟩ (.int .i64 0)).setCell ⟨w.heap.size + 1, 1, none⟩ (.slice none 0 0)) := ⟨_, rfl⟩
          rw [← hW4] at BA LA ⊢
          have e0 : W4.cell? ⟨w.heap.size + 1, 0, none⟩ = some (.int .i64 0) := BA.cell 0
          have e1 : W4.cell? ⟨w.heap.size + 1, 1, none⟩ = some (.slice none 0 0) := BA.cell 1
          refine bodyPost_ret (v := .tuple #[.agg #[.int .i64 0, .slice none 0 0], .int .i64 0, .int .i64 8]) (by simp [results, Try.results24, Try.f24, go_sem, e0, e1]) rfl ?_
          exact NextR.err HA.out (by decide) LA

      · have HE := Lib.hid hb
        have r1 : decide (xs[k] < 0) = false := decide_eq_false (by omega)
        have r2 : decide (xs[k] > 1125899906842624) = false := decide_eq_false (by omega)
        obtain ⟨v, hv⟩ : ∃ v, xs[k] = v := ⟨_, rfl⟩
        rw [hv] at r1 r2 hcell
        clear hb hv
        go_wp2
        go_roundw
        case rel => exact ⟨k + 1, by go_num, by omega, Lib.hid fun j h1 h2 => by
            by_cases hj : j = k
            · subst hj; exact HE.out
            · exact HQ2.out j (by omega) h2, trivial⟩
        case measure => simp [intOf]; omega
    · have hst : stOk t xs l.length := HST.out.2 (badIn_none fun j hj => HQ2.out j (by omega) hj)
      have HEX := Lib.hid (exOf_arg (n := ts.length) (cs := cs) (Q := Q) HCK.out hst)
      have CKx := Lib.hid (CK.out wr HM.out.2)
      clear hst HST HQ2 CK
      by_cases hex : ckArg ts.length cs Q = 0
      case neg =>
        have HA : Hid (nxE t xs l ts.length cs Q = ckArg ts.length cs Q) := Lib.hid (by unfold nxE; rw [HEX.out, if_pos hex])
        have q : (ckArg ts.length cs Q != 0) = true := by rw [bne_iff_ne]; exact hex
        have HN := Lib.hid hex
        obtain ⟨ck, hk⟩ : ∃ ck, ckArg ts.length cs Q = ck := ⟨_, rfl⟩
        rw [hk] at CKx q HA HN
        clear hex hk
        go_wp2_with fail
        refine CKx.out.mono ?_
        rintro e w9 ⟨rfl, rfl⟩
        go_wp2
        obtain ⟨BA, LA⟩ := res_world (u := .int .i64 0) (v := .slice none 0 0) (HM.out.1) rfl (HM.out.2) (by omega : w.heap.size ≤ w.heap.size + 1)
        obtain ⟨W4, hW4⟩ : ∃ W4, W4 = ((w9.setCell ⟨w.heap.size + 1, 0, none⟩ (.int .i64 0)).setCell ⟨w.heap.size + 1, 1, none⟩ (.slice none 0 0)) := ⟨_, rfl⟩
        rw [← hW4] at BA LA ⊢
        have e0 : W4.cell? ⟨w.heap.size + 1, 0, none⟩ = some (.int .i64 0) := BA.cell 0
        have e1 : W4.cell? ⟨w.heap.size + 1, 1, none⟩ = some (.slice none 0 0) := BA.cell 1
        refine bodyPost_ret (v := .tuple #[.agg #[.int .i64 0, .slice none 0 0], .int .i64 0, .int .i64 ck]) (by simp [results, Try.results24, Try.f24, go_sem, e0, e1]) rfl ?_
        exact NextR.err HA.out HN.out LA

      have HE0 := Lib.hid hex
      have HEQ : Hid (exOf t xs l ts.length cs Q = 0) := Lib.hid (HEX.out.trans hex)
      rw [hex] at CKx
      by_cases hn : ts.length = 0
      case pos =>
        have HA : Hid (nxE t xs l ts.length cs Q = 11) := Lib.hid (by unfold nxE; rw [if_neg (fun h => h HEQ.out), if_pos hn])
        have hn' : ts = [] := List.eq_nil_of_length_eq_zero hn
        subst hn'
        clear hn hex
        go_wp2_with fail
        refine CKx.out.mono ?_
        rintro e w9 ⟨rfl, rfl⟩
        go_wp2
        obtain ⟨BA, LA⟩ := res_world (u := .int .i64 0) (v := .slice none 0 0) (HM.out.1) rfl (HM.out.2) (by omega : w.heap.size ≤ w.heap.size + 1)
        obtain ⟨W4, hW4⟩ : ∃ W4, W4 = ((w9.setCell ⟨w.heap.size + 1, 0, none⟩ (.int .i64 0)).setCell ⟨w.heap.size + 1, 1, none⟩ (.slice none 0 0)) := ⟨_, rfl⟩
        rw [← hW4] at BA LA ⊢
        have e0 : W4.cell? ⟨w.heap.size + 1, 0, none⟩ = some (.int .i64 0) := BA.cell 0
        have e1 : W4.cell? ⟨w.heap.size + 1, 1, none⟩ = some (.slice none 0 0) := BA.cell 1
        refine bodyPost_ret (v := .tuple #[.agg #[.int .i64 0, .slice none 0 0], .int .i64 0, .int .i64 11]) (by simp [results, Try.results24, Try.f24, go_sem, e0, e1]) rfl ?_
        exact NextR.err HA.out (by decide) LA

      have HA : Hid (nxE t xs l ts.length cs Q = 0) := Lib.hid (by unfold nxE; rw [if_neg (fun h => h HEQ.out), if_neg hn])
      obtain ⟨t', ht', g, _, htl64, hin⟩ := exOf_good HEQ.out
      subst ht'
      have z1 : decide ((ts.length : Int) = 0) = false := decide_eq_false (by omega)
      have z2 : ((ts.length : Int) == 0) = false := by rw [beq_eq_false_iff_ne]; omega
      have z3 : (ts.length == 0) = false := by rw [beq_eq_false_iff_ne]; omega
      have hmk : ∀ W : World, (Instr.makeSlice 67 (.int .i64 (ts.length : Int)) (.int .i64 (ts.length : Int))).run Try.prog W = .ok (.slice (some ⟨W.heap.size, 0, none⟩) ts.length ts.length) (W.alloc (.cells (madeCells #[.bool false] ts.length) 4)) := fun W => by
        have := (make_bools W 0 ts.length (by omega) (Nat.zero_le _)).1
        rw [Nat.mul_one] at this
        exact this
      have SV := Lib.hid (fun wx gd (hb : Below w.heap.size w wx) (hR : RowB wx 0 gd ts.length (List.replicate ts.length false)) => step_any l ts cs Q (List.replicate ts.length false) (t', xs) wx ax aq (some ⟨gd, 0, none⟩) al acs cx cq ts.length cl ccs g hin (HXS.out.below hb) (HQ.out.below hb) (HX.out.below hb) (HCS.out.below hb) hR.vals (by simp) hc hl64 (by simp) hcq htl64 hccs hcx hxn (rep_false _ (by omega)))
      replace hn := Lib.hid hn
      replace hex := Lib.hid hex
      clear g hin HX HQ HCS HXS
      go_wp2_with fail
      refine CKx.out.mono ?_
      rintro e w2' ⟨rfl, hw2'⟩
      obtain rfl : w2' = wr := hw2'
      obtain ⟨w2, rfl⟩ : ∃ w2, w2 = w2' := ⟨_, rfl⟩
      clear CKx
      have KK : Hid (∀ wx, Below w2.heap.size w2 wx →  Below w2.heap.size w2 wx ∧ wx.cell? ⟨w.heap.size, 0, none⟩ = some (.int .i64 t') ∧ wx.cell? ⟨w.heap.size, 1, none⟩ = some (.slice ax xs.length cx)) := Lib.hid fun wx hb => ⟨hb, below_keep hb d3, below_keep hb d4⟩
      have HRB : Hid (RowB (w2.alloc (.cells (madeCells #[.bool false] ts.length) 4)) 0 w2.heap.size ts.length (List.replicate ts.length false)) := Lib.hid (by
        have := (make_bools w2 0 ts.length (by omega) (Nat.zero_le _)).2
        rw [Nat.mul_one] at this
        exact this)
      have HRB2 : Hid (RowB ((w2.alloc (.cells (madeCells #[.bool false] ts.length) 4)).alloc (.cells #[.int .i64 0, .slice none 0 0] 35)) 0 w2.heap.size ts.length (List.replicate ts.length false)) := Lib.hid (HRB.out.below (below_alloc (Below.refl _ _) _))
      have HRB3 : Hid (RowB ((w2.alloc (.cells #[.int .i64 0, .slice none 0 0] 35)).alloc (.cells (madeCells #[.bool false] ts.length) 4)) 0 (w2.heap.size + 1) ts.length (List.replicate ts.length false)) := Lib.hid (by
        have := (make_bools (w2.alloc (.cells #[.int .i64 0, .slice none 0 0] 35)) 0 ts.length (by omega) (Nat.zero_le _)).2
        rw [Nat.mul_one, World.size_alloc] at this
        exact this)
      have HBX : Hid (Blk ((w2.alloc (.cells (madeCells #[.bool false] ts.length) 4)).alloc (.cells #[.int .i64 0, .slice none 0 0] 35)) (w2.heap.size + 1) 35 #[.int .i64 0, .slice none 0 0]) := Lib.hid (by
        have := Blk.new (w2.alloc (.cells (madeCells #[.bool false] ts.length) 4)) 35 #[.int .i64 0, .slice none 0 0]
        rw [World.size_alloc] at this
        exact this)
      have HBX2 : Hid (Blk ((w2.alloc (.cells #[.int .i64 0, .slice none 0 0] 35)).alloc (.cells (madeCells #[.bool false] ts.length) 4)) w2.heap.size 35 #[.int .i64 0, .slice none 0 0]) := Lib.hid ((Blk.new _ _ _).alloc _)
      have I2 : Hid (∀ wx gd, RowB wx 0 gd ts.length (List.replicate ts.length false) → Below w2.heap.size w2 wx → Calls Try.prog 29 #[.agg #[.int .i64 t', .slice ax xs.length cx], .slice al l.length cl, .slice aq ts.length cq, .slice (some ⟨gd, 0, none⟩) ts.length ts.length, .slice acs cs.length ccs, .int .i64 Q] wx fun e w' => ∃ (r : St × Nat) (g c : Nat), r = (cfgOf l cs Q).go (frontsOf l ts (List.replicate ts.length false)) (t', xs) ∧ e = .returned (.tuple #[.agg #[.int .i64 r.1.1, .slice (some ⟨g, 0, none⟩) r.1.2.length c], .int .i64 r.2]) ∧ RowI w' w2.heap.size g c r.1.2 ∧ Below w2.heap.size w2 w' ∧ Below wx.heap.size wx w') := Lib.hid fun wx gd hR hb => by
        have := SV.out wx gd (Below.next HM.out.2 hb) hR
        rw [List.length_replicate] at this
        refine this.mono ?_
        rintro e w' ⟨r, g, c, h1, h2, h3, h4⟩
        exact ⟨r, g, c, h1, h2, h3.mono hb.size, Below.next hb h4, h4⟩
      have S0 := KK.out w2.drew (Below.refl _ _).drew
      clear SV
      go_wp2_with fail
      refine start_ (n := 15) (S := (fun wx => Below w2.heap.size w2 wx ∧ wx.cell? ⟨w.heap.size, 0, none⟩ = some (.int .i64 t') ∧ wx.cell? ⟨w.heap.size, 1, none⟩ = some (.slice ax xs.length cx))) (ds := [13]) #[false, false, false, false, false, false, false, false, false, false, false, false, false, false, false] (by kernel_rfl) rfl rfl S0 (fun hHeld => ?_)
      refine take_ (i := 0) (N := some 83) (v := ?_) (a' := ?_) #[true, false, false, false, false, false, false, false, false, false, false, false, false, false, false] rfl rfl (by kernel_rfl) (fun _ _ _ h => h) (Or.inl ⟨by rfl, ?_⟩) hHeld ?_ ?_
      rotate_left
      · rintro w' ⟨s0, s1, s2⟩
        go_simp
        try with_reducible rfl
      rotate_left
      · simp only [Act.put, List.setIfInBounds_toArray, List.set_cons_zero, List.set_cons_succ]
        rfl
      refine pure_ (i := 1) (N := some 84) (v := ?_) (a' := ?_) #[true, true, false, false, false, false, false, false, false, false, false, false, false, false, false] rfl rfl (by kernel_rfl) (fun _ _ _ h => h) (Or.inl ⟨by rfl, ?_⟩) ?_ ?_
      rotate_left
      · intro w'
        go_simp
        try with_reducible rfl
      rotate_left
      · simp only [Act.put, List.setIfInBounds_toArray, List.set_cons_zero, List.set_cons_succ]
        rfl
      refine pure_ (i := 2) (N := some 85) (v := ?_) (a' := ?_) #[true, true, true, false, false, false, false, false, false, false, false, false, false, false, false] rfl rfl (by kernel_rfl) (fun _ _ _ h => h) (Or.inl ⟨by rfl, ?_⟩) ?_ ?_
      rotate_left
      · intro w'
        go_simp
        try with_reducible rfl
      rotate_left
      · simp only [Act.put, List.setIfInBounds_toArray, List.set_cons_zero, List.set_cons_succ]
        rfl
      refine pure_ (i := 3) (N := some 86) (v := ?_) (a' := ?_) #[true, true, true, true, false, false, false, false, false, false, false, false, false, false, false] rfl rfl (by kernel_rfl) (fun _ _ _ h => h) (Or.inl ⟨by rfl, ?_⟩) ?_ ?_
      rotate_left
      · intro w'
        go_simp
        try with_reducible rfl
      rotate_left
      · simp only [Act.put, List.setIfInBounds_toArray, List.set_cons_zero, List.set_cons_succ]
        rfl
      refine pure_ (i := 4) (N := some 87) (v := ?_) (a' := ?_) #[true, true, true, true, true, false, false, false, false, false, false, false, false, false, false] rfl rfl (by kernel_rfl) (fun _ _ _ h => h) (Or.inl ⟨by rfl, ?_⟩) ?_ ?_
      rotate_left
      · intro w'
        go_simp
        try with_reducible rfl
      rotate_left
      · simp only [Act.put, List.setIfInBounds_toArray, List.set_cons_zero, List.set_cons_succ]
        rfl
      refine pure_ (i := 6) (N := some 89) (v := ?_) (a' := ?_) #[true, true, true, true, true, false, true, false, false, false, false, false, false, false, false] rfl rfl (by kernel_rfl) (fun _ _ _ h => h) (Or.inl ⟨by rfl, ?_⟩) ?_ ?_
      rotate_left
      · intro w'
        go_simp
        try with_reducible rfl
      rotate_left
      · simp only [Act.put, List.setIfInBounds_toArray, List.set_cons_zero, List.set_cons_succ]
        rfl
      refine pure_ (i := 7) (N := some 90) (v := ?_) (a' := ?_) #[true, true, true, true, true, false, true, true, false, false, false, false, false, false, false] rfl rfl (by kernel_rfl) (fun _ _ _ h => h) (Or.inl ⟨by rfl, ?_⟩) ?_ ?_
      rotate_left
      · intro w'
        go_simp
        try with_reducible rfl
      rotate_left
      · simp only [Act.put, List.setIfInBounds_toArray, List.set_cons_zero, List.set_cons_succ]
        rfl
      refine two_ (i := 5) (j := 12) (Ni := some 88) (Nj := some 16) #[true, true, true, true, true, true, true, true, false, false, false, false, false, false, false] #[true, true, true, true, true, false, true, true, false, false, false, false, true, false, false] rfl rfl rfl rfl (by kernel_rfl) (by decide) (by decide) (fun K hK => ?_) (fun K hK => ?_)
      · go_simp
        refine hK.out _ _ (KK.out _ (below_alloc' (Below.refl _ _).drew _)) (fun hHeld => ?_)
        clear hK K
        try simp only [Act.put, List.setIfInBounds_toArray, List.set_cons_zero, List.set_cons_succ]
        refine two_ (i := 8) (j := 12) (Ni := some 91) (Nj := some 16) #[true, true, true, true, true, true, true, true, true, false, false, false, false, false, false] #[true, true, true, true, true, true, true, true, false, false, false, false, true, false, false] rfl rfl rfl rfl (by kernel_rfl) (by decide) (by decide) (fun K hK => ?_) (fun K hK => ?_)
        · go_simp
          refine (I2.out _ w2.heap.size (by exact HRB.out) hHeld.1).mono ?_
          rintro e w6 ⟨r, g6, c6, hr, rfl, R6, L6, X6⟩
          replace hr := Lib.hid hr
          replace R6 := Lib.hid R6
          replace L6 := Lib.hid L6
          refine hK.out _ _ (KK.out _ (L6.out)) (fun hHeld => ?_)
          clear hK K
          try simp only [Act.put, List.setIfInBounds_toArray, List.set_cons_zero, List.set_cons_succ]
          refine pure_ (i := 9) (N := some 82) (v := ?_) (a' := ?_) #[true, true, true, true, true, true, true, true, true, true, false, false, false, false, false] rfl rfl (by kernel_rfl) (fun _ _ _ h => h) (Or.inl ⟨by rfl, ?_⟩) ?_ ?_
          rotate_left
          · intro w'
            go_simp
            try with_reducible rfl
          rotate_left
          · simp only [Act.put, List.setIfInBounds_toArray, List.set_cons_zero, List.set_cons_succ]
            rfl
          refine pure_ (i := 10) (N := some 92) (v := ?_) (a' := ?_) #[true, true, true, true, true, true, true, true, true, true, true, false, false, false, false] rfl rfl (by kernel_rfl) (fun _ _ _ h => h) (Or.inl ⟨by rfl, ?_⟩) ?_ ?_
          rotate_left
          · intro w'
            go_simp
            try with_reducible rfl
          rotate_left
          · simp only [Act.put, List.setIfInBounds_toArray, List.set_cons_zero, List.set_cons_succ]
            rfl
          refine pure_ (i := 11) (N := some 93) (v := ?_) (a' := ?_) #[true, true, true, true, true, true, true, true, true, true, true, true, false, false, false] rfl rfl (by kernel_rfl) (fun _ _ _ h => h) (Or.inl ⟨by rfl, ?_⟩) ?_ ?_
          rotate_left
          · intro w'
            go_simp
            try with_reducible rfl
          rotate_left
          · simp only [Act.put, List.setIfInBounds_toArray, List.set_cons_zero, List.set_cons_succ]
            rfl
          refine one_ (i := 12) (N := some 16) #[true, true, true, true, true, true, true, true, true, true, true, true, true, false, false] rfl rfl (by kernel_rfl) (by decide) (fun K hK => ?_)
          go_simp
          refine hK.out _ _ (KK.out _ (by exact below_alloc L6.out _)) (fun hHeld => ?_)
          clear hK K
          try simp only [Act.put, List.setIfInBounds_toArray, List.set_cons_zero, List.set_cons_succ]
          refine last_ (i := 13) (N := none) #[true, true, true, true, true, true, true, true, true, true, true, true, true, true, false] rfl rfl (by kernel_rfl) (by decide) (fun K hK => ?_)
          go_simp
          refine hK.out _ _ ?_
          clear hK K
          try simp only [Act.put, List.setIfInBounds_toArray, List.set_cons_zero, List.set_cons_succ]
          refine pure_ (i := 14) (N := some 17) (v := ?_) (a' := ?_) #[true, true, true, true, true, true, true, true, true, true, true, true, true, true, true] rfl rfl (by kernel_rfl) (fun _ _ _ h => h) (Or.inl ⟨by rfl, ?_⟩) ?_ ?_
          rotate_left
          · intro w'
            go_simp
            try with_reducible rfl
          rotate_left
          · simp only [Act.put, List.setIfInBounds_toArray, List.set_cons_zero, List.set_cons_succ]
            rfl
          refine done_ (by kernel_rfl) ?_
          have B7 := Blk.new w6 35 #[.int .i64 r.1.1, .slice (some ⟨g6, 0, none⟩) r.1.2.length c6]
          have C7 := (HM.out.1.below L6.out).alloc (.cells #[.int .i64 r.1.1, .slice (some ⟨g6, 0, none⟩) r.1.2.length c6] 35)
          have R7 := R6.out.below (below_alloc (Below.refl _ w6) (.cells #[.int .i64 r.1.1, .slice (some ⟨g6, 0, none⟩) r.1.2.length c6] 35))
          have L7 := below_alloc (Below.next HM.out.2 L6.out) (.cells #[.int .i64 r.1.1, .slice (some ⟨g6, 0, none⟩) r.1.2.length c6] 35)
          have hg6 := R6.out.lt.1
          have hg61 : g6 ≠ w.heap.size + 1 := by omega
          obtain ⟨W7, hW7⟩ : ∃ W7, W7 = w6.alloc (.cells #[.int .i64 r.1.1, .slice (some ⟨g6, 0, none⟩) r.1.2.length c6] 35) := ⟨_, rfl⟩
          rw [← hW7] at B7 C7 R7 L7 ⊢
          have f0 : W7.cell? ⟨w6.heap.size, 0, none⟩ = some (.int .i64 r.1.1) := B7.cell 0
          have f1 : W7.cell? ⟨w6.heap.size, 1, none⟩ = some (.slice (some ⟨g6, 0, none⟩) r.1.2.length c6) := B7.cell 1
          have f2 : W7.cell? ⟨w.heap.size + 1, 0, none⟩ = some (.int .i64 0) := C7.cell 0
          have f3 : W7.cell? ⟨w.heap.size + 1, 1, none⟩ = some (.slice none 0 0) := C7.cell 1
          have f4 := fun j => C7.free j
          have hlt7 : w.heap.size + 1 < W7.heap.size := C7.lt
          have H7 := Lib.hid (And.intro C7 (And.intro R7 L7))
          clear B7 C7 R7 L7 R6 L6 HM HC hW7 hHeld S0 d0 d1 d2 d3 d4 d5 hlt
          go_wp2
          obtain ⟨BA, LA⟩ := res_world (u := .int .i64 r.1.1) (v := .slice (some ⟨g6, 0, none⟩) r.1.2.length c6) (H7.out.1) rfl (H7.out.2.2) (by omega : w.heap.size ≤ w.heap.size + 1)
          have RA := (H7.out.2.1.other 0 hg61 (.int .i64 r.1.1)).other 1 hg61 (.slice (some ⟨g6, 0, none⟩) r.1.2.length c6)
          obtain ⟨W4, hW4⟩ : ∃ W4, W4 = ((W7.setCell ⟨w.heap.size + 1, 0, none⟩ (.int .i64 r.1.1)).setCell ⟨w.heap.size + 1, 1, none⟩ (.slice (some ⟨g6, 0, none⟩) r.1.2.length c6)) := ⟨_, rfl⟩
          rw [← hW4] at BA LA RA ⊢
          have e0 : W4.cell? ⟨w.heap.size + 1, 0, none⟩ = some (.int .i64 r.1.1) := BA.cell 0
          have e1 : W4.cell? ⟨w.heap.size + 1, 1, none⟩ = some (.slice (some ⟨g6, 0, none⟩) r.1.2.length c6) := BA.cell 1
          refine bodyPost_ret (v := .tuple #[.agg #[.int .i64 r.1.1, .slice (some ⟨g6, 0, none⟩) r.1.2.length c6], .int .i64 r.2, .int .i64 0]) (by simp [results, Try.results24, Try.f24, go_sem, e0, e1]) rfl ?_
          exact NextR.ok HA.out hr.out RA LA
        · go_simp
          refine hK.out _ _ (KK.out _ (below_alloc (below_alloc (Below.refl w2.heap.size w2) _) _).drew) (fun hHeld => ?_)
          clear hK K
          try simp only [Act.put, List.setIfInBounds_toArray, List.set_cons_zero, List.set_cons_succ]
          refine one_ (i := 8) (N := some 91) #[true, true, true, true, true, true, true, true, true, false, false, false, true, false, false] rfl rfl (by kernel_rfl) (by decide) (fun K hK => ?_)
          go_simp
          refine (I2.out _ w2.heap.size (by exact HRB2.out) hHeld.1).mono ?_
          rintro e w6 ⟨r, g6, c6, hr, rfl, R6, L6, X6⟩
          have BX : Hid (Blk w6 (w2.heap.size + 1) 35 #[.int .i64 0, .slice none 0 0]) := Lib.hid (Blk.below (by exact HBX.out) X6)
          have fz := fun j => BX.out.free j
          have hblt : (w2.heap.size + 1) < w6.heap.size := BX.out.lt
          have y0 : w6.cell? ⟨(w2.heap.size + 1), 0, none⟩ = some (.int .i64 0) := BX.out.cell 0
          have y1 : w6.cell? ⟨(w2.heap.size + 1), 1, none⟩ = some (.slice none 0 0) := BX.out.cell 1
          replace hr := Lib.hid hr
          replace R6 := Lib.hid R6
          replace L6 := Lib.hid L6
          refine hK.out _ _ (KK.out _ (L6.out)) (fun hHeld => ?_)
          clear hK K
          try simp only [Act.put, List.setIfInBounds_toArray, List.set_cons_zero, List.set_cons_succ]
          refine pure_ (i := 9) (N := some 82) (v := ?_) (a' := ?_) #[true, true, true, true, true, true, true, true, true, true, false, false, true, false, false] rfl rfl (by kernel_rfl) (fun _ _ _ h => h) (Or.inl ⟨by rfl, ?_⟩) ?_ ?_
          rotate_left
          · intro w'
            go_simp
            try with_reducible rfl
          rotate_left
          · simp only [Act.put, List.setIfInBounds_toArray, List.set_cons_zero, List.set_cons_succ]
            rfl
          refine pure_ (i := 10) (N := some 92) (v := ?_) (a' := ?_) #[true, true, true, true, true, true, true, true, true, true, true, false, true, false, false] rfl rfl (by kernel_rfl) (fun _ _ _ h => h) (Or.inl ⟨by rfl, ?_⟩) ?_ ?_
          rotate_left
          · intro w'
            go_simp
            try with_reducible rfl
          rotate_left
          · simp only [Act.put, List.setIfInBounds_toArray, List.set_cons_zero, List.set_cons_succ]
            rfl
          refine pure_ (i := 11) (N := some 93) (v := ?_) (a' := ?_) #[true, true, true, true, true, true, true, true, true, true, true, true, true, false, false] rfl rfl (by kernel_rfl) (fun _ _ _ h => h) (Or.inl ⟨by rfl, ?_⟩) ?_ ?_
          rotate_left
          · intro w'
            go_simp
            try with_reducible rfl
          rotate_left
          · simp only [Act.put, List.setIfInBounds_toArray, List.set_cons_zero, List.set_cons_succ]
            rfl
          refine last_ (i := 13) (N := none) #[true, true, true, true, true, true, true, true, true, true, true, true, true, true, false] rfl rfl (by kernel_rfl) (by decide) (fun K hK => ?_)
          go_simp
          refine hK.out _ _ ?_
          clear hK K
          try simp only [Act.put, List.setIfInBounds_toArray, List.set_cons_zero, List.set_cons_succ]
          refine pure_ (i := 14) (N := some 17) (v := ?_) (a' := ?_) #[true, true, true, true, true, true, true, true, true, true, true, true, true, true, true] rfl rfl (by kernel_rfl) (fun _ _ _ h => h) (Or.inl ⟨by rfl, ?_⟩) ?_ ?_
          rotate_left
          · intro w'
            go_simp
            try with_reducible rfl
          rotate_left
          · simp only [Act.put, List.setIfInBounds_toArray, List.set_cons_zero, List.set_cons_succ]
            rfl
          refine done_ (by kernel_rfl) ?_
          have hgB := R6.out.ne BX.out (by decide)
          have B7 := (BX.out.set 0 (.int .i64 r.1.1)).set 1 (.slice (some ⟨g6, 0, none⟩) r.1.2.length c6)
          have C7 := ((HM.out.1.below L6.out).other 0 (by omega : w.heap.size + 1 ≠ (w2.heap.size + 1)) (.int .i64 r.1.1)).other 1 (by omega : w.heap.size + 1 ≠ (w2.heap.size + 1)) (.slice (some ⟨g6, 0, none⟩) r.1.2.length c6)
          have R7 := (R6.out.other 0 hgB (.int .i64 r.1.1)).other 1 hgB (.slice (some ⟨g6, 0, none⟩) r.1.2.length c6)
          have L7 := ((Below.next HM.out.2 L6.out).setCell (p := ⟨(w2.heap.size + 1), 0, none⟩) (by show w.heap.size ≤ (w2.heap.size + 1); omega) (.int .i64 r.1.1)).setCell (p := ⟨(w2.heap.size + 1), 1, none⟩) (by show w.heap.size ≤ (w2.heap.size + 1); omega) (.slice (some ⟨g6, 0, none⟩) r.1.2.length c6)
          have hg6 := R6.out.lt.1
          have hg61 : g6 ≠ w.heap.size + 1 := by omega
          obtain ⟨W7, hW7⟩ : ∃ W7, W7 = (w6.setCell ⟨(w2.heap.size + 1), 0, none⟩ (.int .i64 r.1.1)).setCell ⟨(w2.heap.size + 1), 1, none⟩ (.slice (some ⟨g6, 0, none⟩) r.1.2.length c6) := ⟨_, rfl⟩
          rw [← hW7] at B7 C7 R7 L7 ⊢
          have f0 : W7.cell? ⟨(w2.heap.size + 1), 0, none⟩ = some (.int .i64 r.1.1) := B7.cell 0
          have f1 : W7.cell? ⟨(w2.heap.size + 1), 1, none⟩ = some (.slice (some ⟨g6, 0, none⟩) r.1.2.length c6) := B7.cell 1
          have f2 : W7.cell? ⟨w.heap.size + 1, 0, none⟩ = some (.int .i64 0) := C7.cell 0
          have f3 : W7.cell? ⟨w.heap.size + 1, 1, none⟩ = some (.slice none 0 0) := C7.cell 1
          have f4 := fun j => C7.free j
          have hlt7 : w.heap.size + 1 < W7.heap.size := C7.lt
          have H7 := Lib.hid (And.intro C7 (And.intro R7 L7))
          clear B7 C7 R7 L7 R6 L6 HM HC hW7 hHeld S0 d0 d1 d2 d3 d4 d5 hlt
          go_wp2
          obtain ⟨BA, LA⟩ := res_world (u := .int .i64 r.1.1) (v := .slice (some ⟨g6, 0, none⟩) r.1.2.length c6) (H7.out.1) rfl (H7.out.2.2) (by omega : w.heap.size ≤ w.heap.size + 1)
          have RA := (H7.out.2.1.other 0 hg61 (.int .i64 r.1.1)).other 1 hg61 (.slice (some ⟨g6, 0, none⟩) r.1.2.length c6)
          obtain ⟨W4, hW4⟩ : ∃ W4, W4 = ((W7.setCell ⟨w.heap.size + 1, 0, none⟩ (.int .i64 r.1.1)).setCell ⟨w.heap.size + 1, 1, none⟩ (.slice (some ⟨g6, 0, none⟩) r.1.2.length c6)) := ⟨_, rfl⟩
          rw [← hW4] at BA LA RA ⊢
          have e0 : W4.cell? ⟨w.heap.size + 1, 0, none⟩ = some (.int .i64 r.1.1) := BA.cell 0
          have e1 : W4.cell? ⟨w.heap.size + 1, 1, none⟩ = some (.slice (some ⟨g6, 0, none⟩) r.1.2.length c6) := BA.cell 1
          refine bodyPost_ret (v := .tuple #[.agg #[.int .i64 r.1.1, .slice (some ⟨g6, 0, none⟩) r.1.2.length c6], .int .i64 r.2, .int .i64 0]) (by simp [results, Try.results24, Try.f24, go_sem, e0, e1]) rfl ?_
          exact NextR.ok HA.out hr.out RA LA
      · go_simp
        refine hK.out _ _ (KK.out _ (below_alloc' (Below.refl _ _).drew _)) (fun hHeld => ?_)
        clear hK K
        try simp only [Act.put, List.setIfInBounds_toArray, List.set_cons_zero, List.set_cons_succ]
        refine one_ (i := 5) (N := some 88) #[true, true, true, true, true, true, true, true, false, false, false, false, true, false, false] rfl rfl (by kernel_rfl) (by decide) (fun K hK => ?_)
        go_simp
        refine hK.out _ _ (KK.out _ (below_alloc (below_alloc (Below.refl w2.heap.size w2) _) _).drew) (fun hHeld => ?_)
        clear hK K
        try simp only [Act.put, List.setIfInBounds_toArray, List.set_cons_zero, List.set_cons_succ]
        refine one_ (i := 8) (N := some 91) #[true, true, true, true, true, true, true, true, true, false, false, false, true, false, false] rfl rfl (by kernel_rfl) (by decide) (fun K hK => ?_)
        go_simp
        refine (I2.out _ (w2.heap.size + 1) (by exact HRB3.out) hHeld.1).mono ?_
        rintro e w6 ⟨r, g6, c6, hr, rfl, R6, L6, X6⟩
        have BX : Hid (Blk w6 w2.heap.size 35 #[.int .i64 0, .slice none 0 0]) := Lib.hid (Blk.below (by exact HBX2.out) X6)
        have fz := fun j => BX.out.free j
        have hblt : w2.heap.size < w6.heap.size := BX.out.lt
        have y0 : w6.cell? ⟨w2.heap.size, 0, none⟩ = some (.int .i64 0) := BX.out.cell 0
        have y1 : w6.cell? ⟨w2.heap.size, 1, none⟩ = some (.slice none 0 0) := BX.out.cell 1
        replace hr := Lib.hid hr
        replace R6 := Lib.hid R6
        replace L6 := Lib.hid L6
        refine hK.out _ _ (KK.out _ (L6.out)) (fun hHeld => ?_)
        clear hK K
        try simp only [Act.put, List.setIfInBounds_toArray, List.set_cons_zero, List.set_cons_succ]
        refine pure_ (i := 9) (N := some 82) (v := ?_) (a' := ?_) #[true, true, true, true, true, true, true, true, true, true, false, false, true, false, false] rfl rfl (by kernel_rfl) (fun _ _ _ h => h) (Or.inl ⟨by rfl, ?_⟩) ?_ ?_
        rotate_left
        · intro w'
          go_simp
          try with_reducible rfl
        rotate_left
        · simp only [Act.put, List.setIfInBounds_toArray, List.set_cons_zero, List.set_cons_succ]
          rfl
        refine pure_ (i := 10) (N := some 92) (v := ?_) (a' := ?_) #[true, true, true, true, true, true, true, true, true, true, true, false, true, false, false] rfl rfl (by kernel_rfl) (fun _ _ _ h => h) (Or.inl ⟨by rfl, ?_⟩) ?_ ?_
        rotate_left
        · intro w'
          go_simp
          try with_reducible rfl
        rotate_left
        · simp only [Act.put, List.setIfInBounds_toArray, List.set_cons_zero, List.set_cons_succ]
          rfl
        refine pure_ (i := 11) (N := some 93) (v := ?_) (a' := ?_) #[true, true, true, true, true, true, true, true, true, true, true, true, true, false, false] rfl rfl (by kernel_rfl) (fun _ _ _ h => h) (Or.inl ⟨by rfl, ?_⟩) ?_ ?_
        rotate_left
        · intro w'
          go_simp
          try with_reducible rfl
        rotate_left
        · simp only [Act.put, List.setIfInBounds_toArray, List.set_cons_zero, List.set_cons_succ]
          rfl
        refine last_ (i := 13) (N := none) #[true, true, true, true, true, true, true, true, true, true, true, true, true, true, false] rfl rfl (by kernel_rfl) (by decide) (fun K hK => ?_)
        go_simp
        refine hK.out _ _ ?_
        clear hK K
        try simp only [Act.put, List.setIfInBounds_toArray, List.set_cons_zero, List.set_cons_succ]
        refine pure_ (i := 14) (N := some 17) (v := ?_) (a' := ?_) #[true, true, true, true, true, true, true, true, true, true, true, true, true, true, true] rfl rfl (by kernel_rfl) (fun _ _ _ h => h) (Or.inl ⟨by rfl, ?_⟩) ?_ ?_
        rotate_left
        · intro w'
          go_simp
          try with_reducible rfl
        rotate_left
        · simp only [Act.put, List.setIfInBounds_toArray, List.set_cons_zero, List.set_cons_succ]
          rfl
        refine done_ (by kernel_rfl) ?_
        have hgB := R6.out.ne BX.out (by decide)
        have B7 := (BX.out.set 0 (.int .i64 r.1.1)).set 1 (.slice (some ⟨g6, 0, none⟩) r.1.2.length c6)
        have C7 := ((HM.out.1.below L6.out).other 0 (by omega : w.heap.size + 1 ≠ w2.heap.size) (.int .i64 r.1.1)).other 1 (by omega : w.heap.size + 1 ≠ w2.heap.size) (.slice (some ⟨g6, 0, none⟩) r.1.2.length c6)
        have R7 := (R6.out.other 0 hgB (.int .i64 r.1.1)).other 1 hgB (.slice (some ⟨g6, 0, none⟩) r.1.2.length c6)
        have L7 := ((Below.next HM.out.2 L6.out).setCell (p := ⟨w2.heap.size, 0, none⟩) (by show w.heap.size ≤ w2.heap.size; omega) (.int .i64 r.1.1)).setCell (p := ⟨w2.heap.size, 1, none⟩) (by show w.heap.size ≤ w2.heap.size; omega) (.slice (some ⟨g6, 0, none⟩) r.1.2.length c6)
        have hg6 := R6.out.lt.1
        have hg61 : g6 ≠ w.heap.size + 1 := by omega
        obtain ⟨W7, hW7⟩ : ∃ W7, W7 = (w6.setCell ⟨w2.heap.size, 0, none⟩ (.int .i64 r.1.1)).setCell ⟨w2.heap.size, 1, none⟩ (.slice (some ⟨g6, 0, none⟩) r.1.2.length c6) := ⟨_, rfl⟩
        rw [← hW7] at B7 C7 R7 L7 ⊢
        have f0 : W7.cell? ⟨w2.heap.size, 0, none⟩ = some (.int .i64 r.1.1) := B7.cell 0
        have f1 : W7.cell? ⟨w2.heap.size, 1, none⟩ = some (.slice (some ⟨g6, 0, none⟩) r.1.2.length c6) := B7.cell 1
        have f2 : W7.cell? ⟨w.heap.size + 1, 0, none⟩ = some (.int .i64 0) := C7.cell 0
        have f3 : W7.cell? ⟨w.heap.size + 1, 1, none⟩ = some (.slice none 0 0) := C7.cell 1
        have f4 := fun j => C7.free j
        have hlt7 : w.heap.size + 1 < W7.heap.size := C7.lt
        have H7 := Lib.hid (And.intro C7 (And.intro R7 L7))
        clear B7 C7 R7 L7 R6 L6 HM HC hW7 hHeld S0 d0 d1 d2 d3 d4 d5 hlt
        go_wp2
        obtain ⟨BA, LA⟩ := res_world (u := .int .i64 r.1.1) (v := .slice (some ⟨g6, 0, none⟩) r.1.2.length c6) (H7.out.1) rfl (H7.out.2.2) (by omega : w.heap.size ≤ w.heap.size + 1)
        have RA := (H7.out.2.1.other 0 hg61 (.int .i64 r.1.1)).other 1 hg61 (.slice (some ⟨g6, 0, none⟩) r.1.2.length c6)
        obtain ⟨W4, hW4⟩ : ∃ W4, W4 = ((W7.setCell ⟨w.heap.size + 1, 0, none⟩ (.int .i64 r.1.1)).setCell ⟨w.heap.size + 1, 1, none⟩ (.slice (some ⟨g6, 0, none⟩) r.1.2.length c6)) := ⟨_, rfl⟩
        rw [← hW4] at BA LA RA ⊢
        have e0 : W4.cell? ⟨w.heap.size + 1, 0, none⟩ = some (.int .i64 r.1.1) := BA.cell 0
        have e1 : W4.cell? ⟨w.heap.size + 1, 1, none⟩ = some (.slice (some ⟨g6, 0, none⟩) r.1.2.length c6) := BA.cell 1
        refine bodyPost_ret (v := .tuple #[.agg #[.int .i64 r.1.1, .slice (some ⟨g6, 0, none⟩) r.1.2.length c6], .int .i64 r.2, .int .i64 0]) (by simp [results, Try.results24, Try.f24, go_sem, e0, e1]) rfl ?_
        exact NextR.ok HA.out hr.out RA LA
end Go.Proofs.Ytdfnpknekjgkiaa
