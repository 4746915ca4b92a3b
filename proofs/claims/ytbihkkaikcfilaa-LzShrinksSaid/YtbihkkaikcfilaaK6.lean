/- Pack: its contract. -/
import Derived.Test.YtbihkkaikcfilaaK5
namespace Go.Proofs.Ytbihkkaikcfilaa
open Go.RowKit Go.Maps
set_option linter.unusedVariables false
set_option linter.unusedSimpArgs false

theorem cop_of_com {xs : List Int} {f p k : Nat} (h : Com xs f p k) (hf : f < p) : Cop xs p k (p - f) := .inr ⟨by omega, by omega, h.le, fun i hi => by rw [show p - (p - f) = f from by omega]; exact h.eq i hi⟩
set_option maxRecDepth 100000 in
set_option maxHeartbeats 8000000 in
theorem pack_any (a : Option Addr) (c : Nat) (xs : List Int) (w : World) (hx : Ints .u8 w a xs) (hc : xs.length ≤ c) (hnil : a = none → c = 0) (hl : xs.length ≤ 100000) :
    Calls Try.prog 14 #[.slice a xs.length c] w fun e w' => ∃ r p, e = .returned r ∧ PackR xs p ∧ w'.ownsRow w.heap.size 5 1 r p.length (p.map (Value.int .u8)) ∧ Below w.heap.size w w' := by
  have hmf : ∀ (fn : Fn) (first cap : Array Value) (w : World), (Instr.makeFunc fn first cap).run Try.prog w = .ok (.func fn first cap) w := fun _ _ _ _ => rfl
  have hmm := @run_makeMap Try.prog
  have HX := Lib.hid hx
  clear hx
  go_enter Try.func14, Try.ntmps14
  go_wp2
  go_loopw [7] (fun i wr => ∃ p : Nat, i = .int .i64 p ∧ KInv w a c xs p wr) (fun i _ => xs.length - (intOf i).toNat)
  case atStart => exact ⟨0, rfl, kinv_start w a c xs⟩
  case round =>
    clear hmf hmm
    obtain ⟨p, rfl, ⟨ts, start, ov, D, hI, hS, hJ⟩⟩ := hrel
    have HI := Lib.hid hI
    have HS := Lib.hid hS
    have HJ := Lib.hid hJ
    have hal := hI.al
    have c0 := cell_of_one hS.b0
    clear hI hS hJ
    by_cases hlt : p < xs.length
    · have q0 : decide ((p : Int) < (xs.length : Int)) = true := decide_eq_true (by omega)
      have q0' : decide (p < xs.length) = true := decide_eq_true hlt
      have R := Lib.hid (repeated_any a c xs p wr (HX.out.below HS.out.low) hc (by omega) hal)
      go_wp2_with fail
      refine R.out.mono ?_
      rintro e1 w1 ⟨n, d, rfl, hn1, hd1, hcop, hmost, hb1⟩
      have HC := Lib.hid hcop
      have HM := Lib.hid hmost
      obtain ⟨S1, K1⟩ := HS.out.below hb1
      have c1 := cell_of_one S1.b0
      have HS1 := Lib.hid S1
      have HJ1 := Lib.hid (HJ.out.keep K1)
      clear S1 K1 hb1 R hcop hmost
      by_cases h4 : p + 4 ≤ xs.length
      · have q4 : decide ((p : Int) + 4 ≤ (xs.length : Int)) = true := decide_eq_true (by omega)
        have q4' : decide (p + 4 ≤ xs.length) = true := decide_eq_true h4
        obtain ⟨i5, hi5, hy0, hy1, hy2⟩ := info_parts info5
        have hcut := fun W => mid_run (P := Try.prog) 22 5 Try.underlying22 hi5 .i64 .i64 a xs.length c p (p + 4) (by omega) (by omega) W
        rw [hy1, show ((p + 4 : Nat) : Int) = (p : Int) + 4 from by omega, show p + 4 - p = 4 from by omega] at hcut
        have hln : ((xs.drop p).take 4).length = 4 := by rw [List.length_take, List.length_drop]; omega
        have hcv := conv_ints _ (c - p) 4 _ w1 (((HX.out.below HS1.out.low).drop p c hc).take 4) hln
        generalize (if c = p then a else a.map (·.add (p * 1))) = a2 at *
        have hks : (strOfNums ((xs.drop p).take 4)).size = 4 := by rw [strOfNums_size]; exact hln
        generalize strOfNums ((xs.drop p).take 4) = key at *
        have hkey : keyOf Try.prog 9 (.string key) = some (.string key.data.toList) := Go.WideMaps.keyOf_string_mk Try.underlying9 (by rw [hks]; unfold maxLen; omega)
        have HKY := Lib.hid hkey
        have HKL : Hid (WideAt.IsKeyLit (.string key.data.toList)) := Lib.hid trivial
        have WFP : (Lit.int .i64 (p : Int)).wf = true := by simp only [Lit.wf, Bool.and_eq_true, decide_eq_true_eq]; exact ⟨by show (-9223372036854775808 : Int) ≤ _; omega, by show _ ≤ (9223372036854775807 : Int); omega⟩
        have HWF := Lib.hid WFP
        clear hkey hks hln hi5 hy0 hy1 hy2 i5
        go_wp2_with (at_lookup; refine wpList_lookup_own_ok_int _ rfl _ _ 50 rfl 9 3 .i64 law9 Try.underlying50 Try.underlying3 (zero3 _) (w.heap.size + 3) p _ rfl HJ1.out.own _ _ rfl HKY.out ?_)
        intro cf hat hwc
        have hv := HJ1.out.vals _ cf hat
        cases hok : Maps.has D (.string key.data.toList) with
        | false =>
          have HMq := HM
          have HCq := HC
          clear hat hwc hcv hcut hv
          have HSu := Lib.hid (HS1.out)
          have HJu := Lib.hid (HJ1.out)
          go_wp2_with (at_mapUpdate; refine wpList_mapUpdate_own _ rfl _ _ _ 50 rfl 9 3 law9 Try.underlying50 _ (w.heap.size + 3) p _ rfl HJu.out.own (by unfold maxLen; omega) _ _ _ rfl rfl HKY.out _ [] (plainElem_int Try.underlying3 WFP) ?_)
          intro w7 hown7 hgrow7
          have S7 := HSu.out.mapset hgrow7
          have J7 : ∀ q, p < q → ∃ D, JM w q w7 D := fun q hq => ⟨_, HJu.out.put HKL.out hq hown7⟩
          clear hown7 hgrow7
          clear hok
          have HSq := Lib.hid (S7)
          have HJq : Hid (∀ q, p < q → ∃ D, JM w q w7 D) := Lib.hid (J7)
          have hnq : n ≤ xs.length := by omega
          have hdq : d ≤ 200000 := by omega
          clear S7 J7
          by_cases h12 : n < 12
          · have q12 : decide ((n : Int) < 12) = true := decide_eq_true (by omega)
            have q12' : decide (n < 12) = true := decide_eq_true h12
            go_wp2
            go_roundw
            case rel =>
              obtain ⟨D', hD'⟩ := HJq.out (p + 1) (by omega)
              exact ⟨p + 1, by go_num, ⟨ts, start, ov, D', pack_skip HI.out hlt h12 HMq.out, HSq.out, hD'⟩⟩
            case measure => simp [intOf]; omega
          · have q12 : decide ((n : Int) < 12) = false := decide_eq_false (by omega)
            have q12' : decide (n < 12) = false := decide_eq_false h12
            have hcp : 1 ≤ d ∧ d ≤ p ∧ p + n ≤ xs.length ∧ ∀ i, i < n → xs.getD (p - d + i) 0 = xs.getD (p + i) 0 := by
              rcases HCq.out with h | h
              · omega
              · exact h
            have PC := Lib.hid (pack_copy HI.out (by omega) (by omega) hcp.1 hcp.2.1 hcp.2.2.1 hcp.2.2.2 HMq.out)
            have EM := Lib.hid (emit_any w a c xs start p n d (formL ts) w7 ov HSq.out HX.out hc hnil (by omega) HI.out.sa hcp.2.2.1 hdq (by have := HI.out.len; have := HI.out.sa; omega))
            have hpn := hcp.2.2.1
            clear hcp
            go_wp2_with fail
            refine EM.out.mono ?_
            rintro r9 w9 ⟨rfl, ov9, S9, K9⟩
            have HS9 := Lib.hid S9
            have HK9 := Lib.hid K9
            clear S9 K9 EM
            go_wp2
            go_roundw
            case rel =>
              obtain ⟨D', hD'⟩ := HJq.out (p + n) (by omega)
              exact ⟨p + n, by go_num, ⟨_, p + n, ov9, D', PC.out.1, by rw [PC.out.2]; exact HS9.out, hD'.keep HK9.out⟩⟩
            case measure => simp [intOf]; omega
        | true =>
          have hp0 : p ≠ 0 := fun e => by
            have := HJ1.out.zero e
            rw [this] at hok
            cases hok
          have hcf : 0 ≤ cf ∧ cf < p := by omega
          obtain ⟨f, rfl⟩ := Int.eq_ofNat_of_zero_le hcf.1
          have hfp : f < p := by omega
          have CM := Lib.hid (common_any a c xs f p w1 (HX.out.below HS1.out.low) hc (by omega) hfp hal)
          clear hat hwc hcv hcut hv hcf
          go_wp2_with fail
          refine CM.out.mono ?_
          rintro e2 w2 ⟨k, rfl, hk, hb2⟩
          obtain ⟨S2, K2⟩ := HS1.out.below hb2
          have HS2 := Lib.hid S2
          have HJ2 := Lib.hid (HJ1.out.keep K2)
          have hkl := hk.le
          have HK := Lib.hid hk
          clear S2 K2 hb2 CM hk
          by_cases hkn : n < k
          · have q5 : decide ((k : Int) > (n : Int)) = true := decide_eq_true (by omega)
            have q5' : decide (n < k) = true := decide_eq_true hkn
            have HCq : Hid (Cop xs p k (p - f)) := Lib.hid (cop_of_com HK.out hfp)
            have HMq : Hid (∀ u k', 1 ≤ u → u ≤ 32 → u ≤ p → Com xs (p - u) p k' → k' ≤ k) := Lib.hid fun u k' e1 e2 e3 e4 => by have := HM.out u k' e1 e2 e3 e4; omega
            have hwd : IntKind.i64.wrap ((p : Int) - (f : Int)) = ((p - f : Nat) : Int) := by rw [show (p : Int) - (f : Int) = ((p - f : Nat) : Int) from by omega]; exact IntWalk.i64_in _ (by omega)
            have hde : (p : Int) - (f : Int) = ((p - f : Nat) : Int) := by omega
            have HSu := Lib.hid (HS2.out)
            have HJu := Lib.hid (HJ2.out)
            go_wp2_with (at_mapUpdate; refine wpList_mapUpdate_own _ rfl _ _ _ 50 rfl 9 3 law9 Try.underlying50 _ (w.heap.size + 3) p _ rfl HJu.out.own (by unfold maxLen; omega) _ _ _ rfl rfl HKY.out _ [] (plainElem_int Try.underlying3 WFP) ?_)
            intro w7 hown7 hgrow7
            have S7 := HSu.out.mapset hgrow7
            have J7 : ∀ q, p < q → ∃ D, JM w q w7 D := fun q hq => ⟨_, HJu.out.put HKL.out hq hown7⟩
            clear hown7 hgrow7
            clear hok
            have HSq := Lib.hid (S7)
            have HJq : Hid (∀ q, p < q → ∃ D, JM w q w7 D) := Lib.hid (J7)
            have hnq : k ≤ xs.length := by omega
            have hdq : (p - f) ≤ 200000 := by omega
            clear S7 J7
            by_cases h12 : k < 12
            · have q12 : decide ((k : Int) < 12) = true := decide_eq_true (by omega)
              have q12' : decide (k < 12) = true := decide_eq_true h12
              go_wp2
              go_roundw
              case rel =>
                obtain ⟨D', hD'⟩ := HJq.out (p + 1) (by omega)
                exact ⟨p + 1, by go_num, ⟨ts, start, ov, D', pack_skip HI.out hlt h12 HMq.out, HSq.out, hD'⟩⟩
              case measure => simp [intOf]; omega
            · have q12 : decide ((k : Int) < 12) = false := decide_eq_false (by omega)
              have q12' : decide (k < 12) = false := decide_eq_false h12
              have hcp : 1 ≤ (p - f) ∧ (p - f) ≤ p ∧ p + k ≤ xs.length ∧ ∀ i, i < k → xs.getD (p - (p - f) + i) 0 = xs.getD (p + i) 0 := by
                rcases HCq.out with h | h
                · omega
                · exact h
              have PC := Lib.hid (pack_copy HI.out (by omega) (by omega) hcp.1 hcp.2.1 hcp.2.2.1 hcp.2.2.2 HMq.out)
              have EM := Lib.hid (emit_any w a c xs start p k (p - f) (formL ts) w7 ov HSq.out HX.out hc hnil (by omega) HI.out.sa hcp.2.2.1 hdq (by have := HI.out.len; have := HI.out.sa; omega))
              have hpn := hcp.2.2.1
              clear hcp
              go_wp2_with fail
              refine EM.out.mono ?_
              rintro r9 w9 ⟨rfl, ov9, S9, K9⟩
              have HS9 := Lib.hid S9
              have HK9 := Lib.hid K9
              clear S9 K9 EM
              go_wp2
              go_roundw
              case rel =>
                obtain ⟨D', hD'⟩ := HJq.out (p + k) (by omega)
                exact ⟨p + k, by go_num, ⟨_, p + k, ov9, D', PC.out.1, by rw [PC.out.2]; exact HS9.out, hD'.keep HK9.out⟩⟩
              case measure => simp [intOf]; omega
          · have q5 : decide ((k : Int) > (n : Int)) = false := decide_eq_false (by omega)
            have q5' : decide (n < k) = false := decide_eq_false hkn
            have HMq := HM
            have HCq := HC
            have HSu := Lib.hid (HS2.out)
            have HJu := Lib.hid (HJ2.out)
            go_wp2_with (at_mapUpdate; refine wpList_mapUpdate_own _ rfl _ _ _ 50 rfl 9 3 law9 Try.underlying50 _ (w.heap.size + 3) p _ rfl HJu.out.own (by unfold maxLen; omega) _ _ _ rfl rfl HKY.out _ [] (plainElem_int Try.underlying3 WFP) ?_)
            intro w7 hown7 hgrow7
            have S7 := HSu.out.mapset hgrow7
            have J7 : ∀ q, p < q → ∃ D, JM w q w7 D := fun q hq => ⟨_, HJu.out.put HKL.out hq hown7⟩
            clear hown7 hgrow7
            clear hok
            have HSq := Lib.hid (S7)
            have HJq : Hid (∀ q, p < q → ∃ D, JM w q w7 D) := Lib.hid (J7)
            have hnq : n ≤ xs.length := by omega
            have hdq : d ≤ 200000 := by omega
            clear S7 J7
            by_cases h12 : n < 12
            · have q12 : decide ((n : Int) < 12) = true := decide_eq_true (by omega)
              have q12' : decide (n < 12) = true := decide_eq_true h12
              go_wp2
              go_roundw
              case rel =>
                obtain ⟨D', hD'⟩ := HJq.out (p + 1) (by omega)
                exact ⟨p + 1, by go_num, ⟨ts, start, ov, D', pack_skip HI.out hlt h12 HMq.out, HSq.out, hD'⟩⟩
              case measure => simp [intOf]; omega
            · have q12 : decide ((n : Int) < 12) = false := decide_eq_false (by omega)
              have q12' : decide (n < 12) = false := decide_eq_false h12
              have hcp : 1 ≤ d ∧ d ≤ p ∧ p + n ≤ xs.length ∧ ∀ i, i < n → xs.getD (p - d + i) 0 = xs.getD (p + i) 0 := by
                rcases HCq.out with h | h
                · omega
                · exact h
              have PC := Lib.hid (pack_copy HI.out (by omega) (by omega) hcp.1 hcp.2.1 hcp.2.2.1 hcp.2.2.2 HMq.out)
              have EM := Lib.hid (emit_any w a c xs start p n d (formL ts) w7 ov HSq.out HX.out hc hnil (by omega) HI.out.sa hcp.2.2.1 hdq (by have := HI.out.len; have := HI.out.sa; omega))
              have hpn := hcp.2.2.1
              clear hcp
              go_wp2_with fail
              refine EM.out.mono ?_
              rintro r9 w9 ⟨rfl, ov9, S9, K9⟩
              have HS9 := Lib.hid S9
              have HK9 := Lib.hid K9
              clear S9 K9 EM
              go_wp2
              go_roundw
              case rel =>
                obtain ⟨D', hD'⟩ := HJq.out (p + n) (by omega)
                exact ⟨p + n, by go_num, ⟨_, p + n, ov9, D', PC.out.1, by rw [PC.out.2]; exact HS9.out, hD'.keep HK9.out⟩⟩
              case measure => simp [intOf]; omega
      · have q4 : decide ((p : Int) + 4 ≤ (xs.length : Int)) = false := decide_eq_false (by omega)
        have q4' : decide (p + 4 ≤ xs.length) = false := decide_eq_false h4
        have HMq := HM
        have HCq := HC
        have HSq := Lib.hid (HS1.out)
        have HJq : Hid (∀ q, p < q → ∃ D, JM w q w1 D) := Lib.hid (fun q hq => ⟨_, HJ1.out.next hq⟩)
        have hnq : n ≤ xs.length := by omega
        have hdq : d ≤ 200000 := by omega
        clear q4
        by_cases h12 : n < 12
        · have q12 : decide ((n : Int) < 12) = true := decide_eq_true (by omega)
          have q12' : decide (n < 12) = true := decide_eq_true h12
          go_wp2
          go_roundw
          case rel =>
            obtain ⟨D', hD'⟩ := HJq.out (p + 1) (by omega)
            exact ⟨p + 1, by go_num, ⟨ts, start, ov, D', pack_skip HI.out hlt h12 HMq.out, HSq.out, hD'⟩⟩
          case measure => simp [intOf]; omega
        · have q12 : decide ((n : Int) < 12) = false := decide_eq_false (by omega)
          have q12' : decide (n < 12) = false := decide_eq_false h12
          have hcp : 1 ≤ d ∧ d ≤ p ∧ p + n ≤ xs.length ∧ ∀ i, i < n → xs.getD (p - d + i) 0 = xs.getD (p + i) 0 := by
            rcases HCq.out with h | h
            · omega
            · exact h
          have hpn := hcp.2.2.1
          exact absurd hpn (by omega)
    · have q0 : decide ((p : Int) < (xs.length : Int)) = false := decide_eq_false (by omega)
      have q0' : decide (p < xs.length) = false := decide_eq_false hlt
      obtain rfl : p = xs.length := by omega
      have PR := Lib.hid (pack_end HI.out (by omega))
      have EM := emit_any w a c xs start xs.length 0 0 (formL ts) wr ov HS.out HX.out hc hnil (by omega) HI.out.sa (by omega) (by omega) (by have := HI.out.len; have := HI.out.sa; omega)
      rw [show ((0 : Nat) : Int) = 0 from rfl] at EM
      have EM := Lib.hid EM
      go_wp2_with fail
      refine EM.out.mono ?_
      rintro r9 w9 ⟨rfl, ov9, S9, K9⟩
      have g1 := cell_of_one S9.b1
      have HS9 := Lib.hid S9
      clear S9 K9 EM
      go_wp2
      go_ret
      exact ⟨_, _, rfl, PR.out, ownsRow_mono HS9.out.own (by omega), HS9.out.low⟩
end Go.Proofs.Ytbihkkaikcfilaa
