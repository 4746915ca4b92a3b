/- The law Counts. -/
import Derived.Test.YtdfnpknekjgkiaaD20
namespace Go.Proofs.Ytdfnpknekjgkiaa
open Go.RowKit
set_option linter.unusedVariables false
set_option linter.unusedSimpArgs false

theorem ServedR.nil {l : Shares} {ts : List ByteArray} {cs xs : List Int} {n : Int} {w : World} {e : Ending} {w' : World} (h : ServedR l ts cs xs n w e w') (hn : ¬ (cs.length = ts.length ∧ badIdx ts.length xs = false)) : e = .returned (.slice none 0 0) ∧ Below w.heap.size w w' := by
  unfold ServedR at h
  rw [if_neg hn] at h
  exact h
theorem ServedR.some {l : Shares} {ts : List ByteArray} {cs xs : List Int} {n : Int} {w : World} {e : Ending} {w' : World} (h : ServedR l ts cs xs n w e w') (hn : cs.length = ts.length ∧ badIdx ts.length xs = false) : (∃ g, e = .returned (.slice (some ⟨g, 0, none⟩) l.length l.length) ∧ RowI w' w.heap.size g l.length (srv l ts cs (xs.take (cntOf n xs.length)))) ∧ Below w.heap.size w w' := by
  unfold ServedR at h
  rw [if_pos hn] at h
  exact h
/-- What Served returned, as ints. -/
theorem ServedR.ints {l : Shares} {ts : List ByteArray} {cs xs : List Int} {n : Int} {w : World} {e : Ending} {w' : World} (h : ServedR l ts cs xs n w e w') : ∃ a c, e = .returned (.slice a (if cs.length = ts.length ∧ badIdx ts.length xs = false then srv l ts cs (xs.take (cntOf n xs.length)) else []).length c) ∧ Ints .i64 w' a (if cs.length = ts.length ∧ badIdx ts.length xs = false then srv l ts cs (xs.take (cntOf n xs.length)) else []) ∧ (if cs.length = ts.length ∧ badIdx ts.length xs = false then srv l ts cs (xs.take (cntOf n xs.length)) else []).length ≤ c ∧ Below w.heap.size w w' := by
  by_cases hn : cs.length = ts.length ∧ badIdx ts.length xs = false
  · obtain ⟨⟨g, rfl, hr⟩, hb⟩ := h.some hn
    rw [if_pos hn]
    exact ⟨_, _, by rw [srv_len], hr.vals.ints, by rw [srv_len]; exact Nat.le_refl _, hb⟩
  · obtain ⟨rfl, hb⟩ := h.nil hn
    rw [if_neg hn]
    exact ⟨none, 0, rfl, .inl rfl, Nat.le_refl _, hb⟩
set_option maxRecDepth 100000 in
set_option maxHeartbeats 8000000 in
theorem counts_law (l asks : Shares) (xs : List Int) (n wt Q : Int) (w : World) (al aa ax : Option Addr) (cl ca cx : Nat)
    (hx : Shs w al l) (ha : Shs w aa asks) (hxs : Ints .i64 w ax xs) (hc : l.length ≤ cl) (hca : asks.length ≤ ca) (hcx : xs.length ≤ cx) (hl : l.length ≤ 9223372036854775807) (hla : asks.length ≤ 9223372036854775807) (hlx : xs.length ≤ 9223372036854775807) :
    Calls Try.prog 4 #[.slice al l.length cl, .slice aa asks.length ca, .slice ax xs.length cx, .int .i64 n, .int .i64 wt, .int .i64 Q] w fun e w' => e = .returned (.bool true) ∧ Below w.heap.size w w' := by
  have HX := Lib.hid hx
  have HA := Lib.hid ha
  have HXS := Lib.hid hxs
  clear hx ha hxs
  by_cases h1 : l.length > 80
  case pos =>
    have q1 : decide ((l.length : Int) > 80) = true := decide_eq_true (by omega)
    clear h1
    go_enter Try.func4, Try.ntmps4
    go_wp2_with fail
    refine (lives_any _).mono ?_
    rintro e w1 ⟨rfl, hb1⟩
    have HB := Lib.hid hb1
    clear hb1
    go_wp2
    go_ret
    exact ⟨rfl, HB.out⟩
  have q1 : decide ((l.length : Int) > 80) = false := decide_eq_false (by omega)
  by_cases h2 : asks.length > 70
  case pos =>
    have q2 : decide ((asks.length : Int) > 70) = true := decide_eq_true (by omega)
    clear h1 h2
    go_enter Try.func4, Try.ntmps4
    go_wp2_with fail
    refine (lives_any _).mono ?_
    rintro e w1 ⟨rfl, hb1⟩
    have HB := Lib.hid hb1
    clear hb1
    go_wp2
    go_ret
    exact ⟨rfl, HB.out⟩
  have q2 : decide ((asks.length : Int) > 70) = false := decide_eq_false (by omega)
  by_cases h3 : xs.length > 100
  case pos =>
    have q3 : decide ((xs.length : Int) > 100) = true := decide_eq_true (by omega)
    clear h1 h2 h3
    go_enter Try.func4, Try.ntmps4
    go_wp2_with fail
    refine (lives_any _).mono ?_
    rintro e w1 ⟨rfl, hb1⟩
    have HB := Lib.hid hb1
    clear hb1
    go_wp2
    go_ret
    exact ⟨rfl, HB.out⟩
  have q3 : decide ((xs.length : Int) > 100) = false := decide_eq_false (by omega)
  go_enter Try.func4, Try.ntmps4
  go_wp2_with fail
  refine (lives_any _).mono ?_
  rintro e w1 ⟨rfl, hb1⟩
  have HB := Lib.hid hb1
  clear hb1
  go_wp2
  go_loopw [13] (fun i wr => ∃ k : Nat, i = .int .i64 k ∧ k ≤ asks.length ∧ Hid (∀ j (h : j < k) (h2 : j < asks.length), -1125899906842624 ≤ asks[j].2 ∧ asks[j].2 ≤ 1125899906842624) ∧ wr = w1) (fun i _ => asks.length - (intOf i).toNat)
  case atStart => exact ⟨0, rfl, by omega, Lib.hid fun j h => absurd h (by omega), rfl⟩
  case round =>
    obtain ⟨k, rfl, hk, HQ, rfl⟩ := hrel
    by_cases h : k < asks.length
    · obtain ⟨x, rfl, e1, e2⟩ := (HA.out.below HB.out).at h
      by_cases hg : asks[k].2 > 1125899906842624
      · have q4 : decide (asks[k].2 > 1125899906842624) = true := decide_eq_true hg
        generalize asks[k] = s at *
        clear hg
        go_wp2
        go_ret
        exact ⟨rfl, HB.out⟩
      have q4 : decide (asks[k].2 > 1125899906842624) = false := decide_eq_false hg
      by_cases hg2 : asks[k].2 < -1125899906842624
      · have q5 : decide (asks[k].2 < -1125899906842624) = true := decide_eq_true hg2
        generalize asks[k] = s at *
        clear hg hg2
        go_wp2
        go_ret
        exact ⟨rfl, HB.out⟩
      have q5 : decide (asks[k].2 < -1125899906842624) = false := decide_eq_false hg2
      have HE : Hid (-1125899906842624 ≤ asks[k].2 ∧ asks[k].2 ≤ 1125899906842624) := Lib.hid (by omega)
      obtain ⟨s, hs⟩ : ∃ s, asks[k] = s := ⟨_, rfl⟩
      rw [hs] at e1 e2 q4 q5
      clear hg hg2 hs
      go_wp2
      go_roundw
      case rel => exact ⟨k + 1, by go_num, by omega, Lib.hid fun j h1 h2 => by
          by_cases hj : j = k
          · subst hj; exact HE.out
          · exact HQ.out j (by omega) h2, trivial⟩
      case measure => simp [intOf]; omega
    · have q4 : decide ((k : Int) < (asks.length : Int)) = false := decide_eq_false (by omega)
      have HCB : Hid (∀ x ∈ asks.map (fun s => s.2), -1125899906842624 ≤ x ∧ x ≤ 1125899906842624) := by
        refine Lib.hid fun x hx => ?_
        obtain ⟨s, hs, rfl⟩ := List.mem_map.1 hx
        obtain ⟨j, hj, rfl⟩ := List.getElem_of_mem hs
        exact HQ.out j (by omega) hj
      have QU := Lib.hid (queue_any asks aa ca wr (HA.out.below HB.out) hca (by omega))
      clear HQ
      have hml : (asks.map (fun s => s.1)).length = asks.length := by simp
      have hml2 : (asks.map (fun s => s.2)).length = asks.length := by simp
      have HML := Lib.hid (And.intro hml hml2)
      clear hml hml2
      go_wp2_with fail
      refine QU.out.mono ?_
      rintro e w3 ⟨aq, cq, acs, ccs, rfl, rq, ic, lq, lc, nc, b3⟩
      have b3' := Below.next HB.out b3
      have SV : Calls Try.prog 18 _ w3 _ := served_any l (asks.map (fun s => s.1)) (asks.map (fun s => s.2)) xs n w3 al aq acs ax cl cq ccs cx rq (HX.out.below b3') ic (HXS.out.below b3') hc (by omega) (by rw [HML.out.1]; exact lq) (by rw [HML.out.1]; omega) (by rw [HML.out.2]; exact lc) hcx (by omega) HCB.out
      rw [HML.out.1, HML.out.2] at SV
      replace SV := Lib.hid SV
      have HR := Lib.hid (And.intro rq (And.intro ic (And.intro lq (And.intro lc b3'))))
      clear rq ic lq lc nc b3 b3' QU
      go_wp2_with fail
      refine SV.out.mono ?_
      rintro e w4 hS
      obtain ⟨ag, cg, rfl, ig, lg, b4⟩ := hS.ints
      obtain ⟨R, hR⟩ : ∃ R, (if (asks.map (fun s => s.2)).length = (asks.map (fun s => s.1)).length ∧ badIdx (asks.map (fun s => s.1)).length xs = false then srv l (asks.map (fun s => s.1)) (asks.map (fun s => s.2)) (xs.take (cntOf n xs.length)) else []) = R := ⟨_, rfl⟩
      have hRl : R.length ≤ 80 := by
        rw [← hR]
        split
        · rw [srv_len]; omega
        · simp
      rw [hR] at ig lg ⊢
      have b14 := Below.next HR.out.2.2.2.2 b4
      have DF := Lib.hid (defined_any l al cl w4 (HX.out.below b14) hc (by omega))
      have HRR := Lib.hid (And.intro hR hRl)
      have HG := Lib.hid (And.intro ig (And.intro lg b4))
      clear ig lg b4 b14 hR hRl hS SV
      go_wp2_with fail
      refine DF.out.mono ?_
      rintro e w5 ⟨ad, cd, rfl, sd, ld, b5⟩
      obtain ⟨rq, ic, lq, lc, b3'⟩ := HR.out
      obtain ⟨ig, lg, b4⟩ := HG.out
      have b35 := Below.next b4 b5
      have b05 := Below.next b3' b35
      have SV : Calls Try.prog 19 _ w5 _ := rserved_any l (asks.map (fun s => s.1)) (asks.map (fun s => s.2)) xs n w5 ad aq acs ax cd cq ccs cx (rq.below b35) sd (ic.below b35) (HXS.out.below b05) ld (by omega) (by rw [HML.out.1]; exact lq) (by rw [HML.out.1]; omega) (by rw [HML.out.2]; exact lc) hcx (by omega) HCB.out
      rw [HML.out.1, HML.out.2] at SV
      replace SV := Lib.hid SV
      have HG2 := Lib.hid (And.intro (ig.below b5) (And.intro lg (And.intro (ic.below b35) (And.intro lc b05))))
      clear rq ic lq lc b3' ig lg b4 b35 b05 sd ld b5 HG HR DF
      go_wp2_with fail
      refine SV.out.mono ?_
      rintro e w6 hS
      obtain ⟨ah, ch, rfl, ih, lh, b6⟩ := hS.ints
      rw [HRR.out.1] at ih lh ⊢
      obtain ⟨ig, lg, ic, lc, b05⟩ := HG2.out
      have SM := same_any R R ag ah cg ch w6 (ig.below b6) ih lg lh (by have := HRR.out.2; omega) (by have := HRR.out.2; omega)
      rw [decide_eq_true rfl] at SM
      replace SM := Lib.hid SM
      have HC := Lib.hid (And.intro (ic.below b6) (And.intro lc (Below.next b05 b6)))
      clear ig lg ic lc b05 b6 ih lh SV HG2 hS
      go_wp2_with fail
      refine SM.out.mono ?_
      rintro e w7 ⟨rfl, b7⟩
      obtain ⟨ic, lc, b06⟩ := HC.out
      have ic7 := ic.below b7
      have LG := fun wx (h : Below w7.heap.size w7 wx) => lag_any wt Q (asks.map (fun s => s.2)) acs ccs wx (ic7.below h) (by rw [HML.out.2]; exact lc) (by rw [HML.out.2]; omega)
      have LR := fun wx (h : Below w7.heap.size w7 wx) => rlag_any wt Q (asks.map (fun s => s.2)) acs ccs wx (ic7.below h) (by rw [HML.out.2]; exact lc) (by rw [HML.out.2]; omega)
      rw [HML.out.2] at LG LR
      replace LG := Lib.hid LG
      replace LR := Lib.hid LR
      have H7 := Lib.hid (Below.next b06 b7)
      have qq : (lagOf wt Q (asks.map (fun s => s.2)) == lagOf wt Q (asks.map (fun s => s.2))) = true := by simp
      generalize lagOf wt Q (asks.map (fun s => s.2)) = lg at *
      clear ic lc b06 b7 ic7 SM HC
      go_wp2_with fail
      refine (LG.out _ (Below.refl _ _)).mono ?_
      rintro e w8 ⟨rfl, rfl⟩
      go_wp2_with fail
      refine (LR.out _ (Below.refl _ _)).mono ?_
      rintro e w9 ⟨rfl, rfl⟩
      go_wp2
      go_ret
      exact ⟨rfl, H7.out⟩
end Go.Proofs.Ytdfnpknekjgkiaa
