/- front whole; head in the reference. -/
import Derived.Test.YtdfnpknekjgkiaaD3
namespace Go.Proofs.Ytdfnpknekjgkiaa
open Go.RowKit
set_option linter.unusedVariables false
set_option linter.unusedSimpArgs false
open Go.Proofs.YtdfnpknekjgkiaaW.PrintLast

set_option maxRecDepth 100000 in
set_option maxHeartbeats 4000000 in
theorem front_any (l : Shares) (ts : List ByteArray) (done : List Bool) (w : World) (aq ad al : Option Addr) (cq cd cl p : Nat)
    (hq : Rqs w aq ts) (hx : Shs w al l) (hd : Vals w ad (done.map Value.bool)) (hdl : done.length = ts.length) (hc : l.length ≤ cl) (hl : l.length ≤ 1000000) (hcd : done.length ≤ cd) (hcq : ts.length ≤ cq) (htl : ts.length ≤ 1000000) (hp : p ≤ l.length) :
    Calls Try.prog 35 #[.slice al l.length cl, .slice aq ts.length cq, .slice ad done.length cd, .int .i64 p] w fun e w' => e = .returned (.int .i64 (frontOf l ts done p)) ∧ Below w.heap.size w w' := by
  have hmf : ∀ (fn : Fn) (first cap : Array Value) (w : World), (Instr.makeFunc fn first cap).run Try.prog w = .ok (.func fn first cap) w := fun _ _ _ _ => rfl
  obtain ⟨W1, hW1⟩ : ∃ W1, W1 = ((w.alloc (.cells #[.slice al l.length cl] 22)).alloc (.cells #[.slice ad done.length cd] 67)).alloc (.cells #[.int .i64 p] 3) := ⟨_, rfl⟩
  have hb1 : Below w.heap.size w W1 := by rw [hW1]; exact below_alloc (below_alloc (below_alloc (Below.refl _ _) _) _) _
  have cL : W1.cell? ⟨w.heap.size, 0, none⟩ = some (.slice al l.length cl) := by
    rw [hW1]; exact below_keep (below_alloc (Below.refl _ _) _) (below_keep (below_alloc (Below.refl _ _) _) (by rw [World.cell?_alloc_mark]; rfl))
  have cD : W1.cell? ⟨w.heap.size + 1, 0, none⟩ = some (.slice ad done.length cd) := by
    have := World.cell?_alloc_mark (w.alloc (.cells #[.slice al l.length cl] 22)) #[.slice ad done.length cd] 67 (0, 0) 0
    simp only [World.size_alloc] at this
    rw [hW1]; exact below_keep (below_alloc (Below.refl _ _) _) (by rw [this]; rfl)
  have cP : W1.cell? ⟨w.heap.size + 1 + 1, 0, none⟩ = some (.int .i64 p) := by
    have := World.cell?_alloc_mark ((w.alloc (.cells #[.slice al l.length cl] 22)).alloc (.cells #[.slice ad done.length cd] 67)) #[.int .i64 p] 3 (0, 0) 0
    simp only [World.size_alloc] at this
    rw [hW1, this]; rfl
  have X := Lib.hid (first_any l ts done W1 aq ad al cq cd cl _ _ _ p cD cL cP (hq.below hb1) (hx.below hb1) (hd.below hb1) hdl hc hl hcd hcq htl hp)
  have HB := Lib.hid hb1
  clear hq hx hd hdl cL cD cP hb1
  go_enter Try.func35, Try.ntmps35
  go_wp2_with fail
  rw [← hW1]
  refine X.out.mono ?_
  rintro e w1 ⟨rfl, hb2⟩
  have HB2 := Lib.hid (Below.next HB.out hb2)
  clear hb2 hW1 X
  go_wp2
  go_ret
  exact ⟨rfl, HB2.out⟩
set_option maxRecDepth 100000 in
set_option maxHeartbeats 4000000 in
theorem head_any (l : Shares) (ts : List ByteArray) (done : List Bool) (w : World) (aq ad al : Option Addr) (cq cd cl p : Nat)
    (hq : Rqs w aq ts) (hx : Shs w al l) (hd : Vals w ad (done.map Value.bool)) (hdl : done.length = ts.length) (hc : l.length ≤ cl) (hl : l.length ≤ 1000000) (hcd : done.length ≤ cd) (hcq : ts.length ≤ cq) (htl : ts.length ≤ 1000000) (hp : p ≤ l.length) :
    Calls Try.prog 37 #[.slice al l.length cl, .slice aq ts.length cq, .slice ad done.length cd, .int .i64 p] w fun e w' => e = .returned (.int .i64 (frontOf l ts done p)) ∧ Below w.heap.size w w' := by
  go_enter Try.func37, Try.ntmps37
  go_wp2
  go_loopw [9, 10] (fun best i wr => ∃ k n : Nat, i = .int .i64 k ∧ k ≤ ts.length ∧ best = .int .i64 (frontTo l ts done p k) ∧ wr = w.drewN n) (fun _ i _ => ts.length - (intOf i).toNat)
  case atStart => exact ⟨0, 0, rfl, by omega, rfl, rfl⟩
  case round =>
    obtain ⟨k, n, rfl, hk, rfl, rfl⟩ := hrel
    by_cases h : k < ts.length
    · have hbn := below_drewN (Below.refl w.heap.size w) n
      obtain ⟨x, rfl, hr⟩ := hq.at h
      obtain ⟨xd, rfl, hdc⟩ := vals_bool hd (k := k) (by omega)
      have htk : ts.getD k default = ts[k] := by simp [h]
      have hfr := frontTo_is l ts done p k
      have hre := frontTo_ref l ts done hp k
      have hft : (live l ts done p k ∧ (frontTo l ts done p k < 0 ∨ slt (ts.getD k default) (ts.getD (frontTo l ts done p k).toNat default) = true) → frontTo l ts done p (k + 1) = (k : Int)) ∧ (¬ (live l ts done p k ∧ (frontTo l ts done p k < 0 ∨ slt (ts.getD k default) (ts.getD (frontTo l ts done p k).toNat default) = true)) → frontTo l ts done p (k + 1) = frontTo l ts done p k) := ⟨fun h => by rw [hre, if_pos h], fun h => by rw [hre, if_neg h]⟩
      have hlvd : live l ts done p k ↔ done.getD k true = false ∧ partyOf l (ts.getD k default) = p := Iff.rfl
      have c1 := hr.c1
      rw [← htk] at c1
      have P := Lib.hid (rparty_any l al cl (ts.getD k default) (w.drewN n) (hx.below hbn) hc hl)
      have hkd : (k : Int) < (done.length : Int) := by omega
      have hk0 : (0 : Int) ≤ (k : Int) := by omega
      have hkt : (k : Int) < (ts.length : Int) := by omega
      cases hdk : done.getD k true with
      | true =>
        have HF : Hid (frontTo l ts done p (k + 1) = frontTo l ts done p k) := Lib.hid (hft.2 (fun h => by have := h.1.1; rw [hdk] at this; cases this))
        rw [hdk] at hdc
        generalize frontTo l ts done p k = best at *
        clear hft hre hfr hlvd hdk hr hq hx hd hdl htk P
        go_wp2
        go_roundw
        case rel => exact ⟨k + 1, n, by go_num, by omega, by rw [HF.out], rfl⟩
        case measure => simp [intOf]; omega
      | false =>
        rw [hdk] at hdc
        by_cases hpp : partyOf l (ts.getD k default) = p
        case neg =>
          have HF : Hid (frontTo l ts done p (k + 1) = frontTo l ts done p k) := Lib.hid (hft.2 (fun h => hpp h.1.2))
          have q1 : ((partyOf l (ts.getD k default) : Int) != (p : Int)) = true := by rw [bne_iff_ne]; omega
          generalize frontTo l ts done p k = best at *
          generalize partyOf l (ts.getD k default) = pt at *
          generalize ts.getD k default = t at *
          clear hft hre hfr hlvd hdk hr hq hx hd hdl htk hpp
          go_wp2_with fail
          refine P.out.mono ?_
          rintro e w1 ⟨rfl, rfl⟩
          go_wp2
          go_roundw
          case rel => exact ⟨k + 1, n, by go_num, by omega, by rw [HF.out], rfl⟩
          case measure => simp [intOf]; omega
        have hlv := hlvd.2 ⟨hdk, hpp⟩
        rw [hpp] at P
        have q1 : ((p : Int) != (p : Int)) = false := by simp
        by_cases hneg : frontTo l ts done p k < 0
        case pos =>
          have HF : Hid (frontTo l ts done p (k + 1) = (k : Int)) := Lib.hid (hft.1 ⟨hlv, .inl hneg⟩)
          have q2 : decide (frontTo l ts done p k < 0) = true := decide_eq_true hneg
          generalize frontTo l ts done p k = best at *
          generalize ts.getD k default = t at *
          clear hft hre hfr hlvd hdk hr hq hx hd hdl htk hpp hlv hneg
          go_wp2_with fail
          refine P.out.mono ?_
          rintro e w1 ⟨rfl, rfl⟩
          go_wp2
          go_quiet (fail)
          go_wp2
          go_roundw
          case rel => exact ⟨k + 1, n + nq, by go_num, by omega, by rw [HF.out], rfl⟩
          case measure => simp [intOf]; omega
        have hbk := hfr.lt (by omega)
        obtain ⟨b, hbe⟩ : ∃ b : Nat, frontTo l ts done p k = b := ⟨_, (Int.toNat_of_nonneg (by omega)).symm⟩
        rw [hbe] at hft hbk ⊢
        simp only [Int.toNat_natCast] at hft
        have hblt : b < ts.length := by omega
        obtain ⟨x', hx', hrb⟩ := hq.at hblt
        cases hx'
        have htb : ts.getD b default = ts[b] := by simp [hblt]
        have d1 := hrb.c1
        rw [← htb] at d1
        have q2 : decide ((b : Int) < 0) = false := decide_eq_false (by omega)
        have hb0 : (0 : Int) ≤ (b : Int) := by omega
        have hbt : (b : Int) < (ts.length : Int) := by omega
        by_cases hs : slt (ts.getD k default) (ts.getD b default) = true
        · have HF : Hid (frontTo l ts done p (k + 1) = (k : Int)) := Lib.hid (hft.1 ⟨hlv, .inr hs⟩)
          unfold slt at hs
          obtain ⟨tb, htbe⟩ : ∃ tb, ts.getD b default = tb := ⟨_, rfl⟩
          obtain ⟨t, hte⟩ : ∃ t, ts.getD k default = t := ⟨_, rfl⟩
          rw [htbe] at d1 hs
          rw [hte] at c1 hs P
          clear hft hre hfr hlvd hdk hr hq hx hd hdl htk hpp hlv hneg htb htbe hte hbe hrb hbk
          go_wp2_with fail
          refine P.out.mono ?_
          rintro e w1 ⟨rfl, rfl⟩
          go_wp2
          go_quiet (fail)
          go_wp2
          go_roundw
          case rel => exact ⟨k + 1, n + nq, by go_num, by omega, by rw [HF.out], rfl⟩
          case measure => simp [intOf]; omega
        · have HF : Hid (frontTo l ts done p (k + 1) = (b : Int)) := Lib.hid (hft.2 (fun h => by
            rcases h.2 with h2 | h2
            · omega
            · exact hs h2))
          have hs : slt (ts.getD k default) (ts.getD b default) = false := by simpa using hs
          unfold slt at hs
          obtain ⟨tb, htbe⟩ : ∃ tb, ts.getD b default = tb := ⟨_, rfl⟩
          obtain ⟨t, hte⟩ : ∃ t, ts.getD k default = t := ⟨_, rfl⟩
          rw [htbe] at d1 hs
          rw [hte] at c1 hs P
          clear hft hre hfr hlvd hdk hr hq hx hd hdl htk hpp hlv hneg htb htbe hte hbe hrb hbk
          go_wp2_with fail
          refine P.out.mono ?_
          rintro e w1 ⟨rfl, rfl⟩
          go_wp2
          go_quiet (fail)
          go_wp2
          go_roundw
          case rel => exact ⟨k + 1, n + nq, by go_num, by omega, by rw [HF.out], rfl⟩
          case measure => simp [intOf]; omega
    · have HV : Hid (frontOf l ts done p = frontTo l ts done p k) := Lib.hid (by rw [show k = ts.length from by omega]; rfl)
      generalize frontTo l ts done p k = best at *
      go_wp2
      go_ret
      exact ⟨by rw [HV.out]; rfl, below_drewN (Below.refl _ _) _⟩
end Go.Proofs.Ytdfnpknekjgkiaa
