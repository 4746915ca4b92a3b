/- The law Nexts. -/
import Derived.Test.YtdfnpknekjgkiaaD26
namespace Go.Proofs.Ytdfnpknekjgkiaa
open Go.RowKit
open Go.Proofs.YtdfnpknekjgkiaaW.PrintLast
set_option linter.unusedVariables false
set_option linter.unusedSimpArgs false

theorem nxG_len (t : Int) (xs : List Int) (l : Shares) (ts : List ByteArray) (cs : List Int) (Q : Int) (hx : xs.length ≤ 80) : (nxG t xs l ts cs Q).1.2.length ≤ 80 := by
  unfold nxG
  by_cases h : nxE t xs l ts.length cs Q = 0
  · rw [if_pos h]
    have h2 := h
    unfold nxE at h2
    by_cases hex : exOf t xs l ts.length cs Q = 0
    · rw [if_neg (fun k => k hex)] at h2
      by_cases hn : ts.length = 0
      · rw [if_pos hn] at h2; cases h2
      obtain ⟨t', rfl, g, hl, ht, hin⟩ := exOf_good hex
      obtain ⟨j, hj⟩ := rep_false ts.length (by omega)
      have ok := cfg_ok g (List.length_replicate (n := ts.length) (a := false)) hj
      obtain ⟨s', a, _, _, e⟩ := Cfg.go_ind ok (J := fun _ => True) (fun _ _ _ _ => trivial) _ _ (Nat.lt_succ_self _) hin trivial
      have e2 : (cfgOf l cs Q).go (frontsOf l ts (List.replicate ts.length false)) (((t' : Int)).toNat, xs) = _ := e
      rw [e2]
      unfold Cfg.took
      simp only [List.length_set]
      have := a.len
      rw [this]
      show l.length + 1 ≤ 80
      omega
    · rw [if_pos hex] at h2; exact absurd h2 hex
  · rw [if_neg h]; simp
set_option maxRecDepth 100000 in
set_option maxHeartbeats 8000000 in
theorem nexts_law (t : Int) (xs : List Int) (l asks : Shares) (Q : Int) (w : World) (ax al aa : Option Addr) (cx cl ca : Nat)
    (hxs : Ints .i64 w ax xs) (hx : Shs w al l) (ha : Shs w aa asks) (hcx : xs.length ≤ cx) (hc : l.length ≤ cl) (hca : asks.length ≤ ca) (hxn : ax = none → cx = 0) (hlx : xs.length ≤ 9223372036854775807) (hl : l.length ≤ 9223372036854775807) (hla : asks.length ≤ 9223372036854775807) (hr : ∀ s ∈ asks, -9223372036854775808 ≤ s.2 ∧ s.2 ≤ 9223372036854775807) :
    Calls Try.prog 7 #[.int .i64 t, .slice ax xs.length cx, .slice al l.length cl, .slice aa asks.length ca, .int .i64 Q] w fun e w' => e = .returned (.bool true) ∧ Below w.heap.size w w' := by
  have HXS := Lib.hid hxs
  have HX := Lib.hid hx
  have HA := Lib.hid ha
  have FW := Lib.hid (fun wx (hb : Below w.heap.size w wx) => few_any l asks Q al aa cl ca wx (hx.below hb) (ha.below hb) hc hca hl hla hr)
  have HR0 := Lib.hid hr
  clear hxs hx ha hr
  go_enter Try.func7, Try.ntmps7
  go_wp2_with fail
  refine (lives_any _).mono ?_
  rintro e w1 ⟨rfl, hb1⟩
  have HB := Lib.hid hb1
  clear hb1
  go_wp2_with fail
  refine (FW.out _ HB.out).mono ?_
  rintro e w2 ⟨b, rfl, hfew, rfl⟩
  cases b
  case false =>
    clear hfew
    go_wp2
    go_ret
    exact ⟨rfl, HB.out⟩
  obtain ⟨hl80, ha70⟩ := hfew rfl
  clear hfew
  by_cases hx80 : xs.length > 80
  case pos =>
    have q1 : decide ((xs.length : Int) > 80) = true := decide_eq_true (by omega)
    clear hx80
    go_wp2
    go_ret
    exact ⟨rfl, HB.out⟩
  have q1 : decide ((xs.length : Int) > 80) = false := decide_eq_false (by omega)
  have hx80 : xs.length ≤ 80 := by omega
  have QU := Lib.hid (queue_any asks aa ca w2 (HA.out.below HB.out) hca (by omega))
  have hml : (asks.map (fun s => s.1)).length = asks.length := by simp
  have hml2 : (asks.map (fun s => s.2)).length = asks.length := by simp
  have HML := Lib.hid (And.intro hml hml2)
  clear hml hml2
  go_wp2_with fail
  refine QU.out.mono ?_
  rintro e w3 ⟨aq, cq, acs, ccs, rfl, rq, ic, lq, lc, nc, b3⟩
  have b3' := Below.next HB.out b3
  have HR := Lib.hid (And.intro rq (And.intro ic (And.intro lq (And.intro lc b3'))))
  clear rq b3 b3' QU nc
  obtain ⟨T, hT⟩ : ∃ T : List ByteArray, asks.map (fun s => s.1) = T := ⟨_, rfl⟩
  obtain ⟨C, hC⟩ : ∃ C : List Int, asks.map (fun s => s.2) = C := ⟨_, rfl⟩
  replace HML : Hid (T.length = asks.length ∧ C.length = asks.length) := Lib.hid ⟨by rw [← hT]; simp, by rw [← hC]; simp⟩
  replace HR : Hid (Rqs w3 aq T ∧ Ints .i64 w3 acs C ∧ asks.length ≤ cq ∧ asks.length ≤ ccs ∧ Below w.heap.size w w3) := by
    obtain ⟨r1, r2, r3, r4, r5⟩ := HR.out
    exact Lib.hid ⟨by rw [← hT]; exact r1, by rw [← hC]; exact r2, r3, r4, r5⟩
  clear hT hC ic lq lc
  have NX : Hid (∀ wx a c, Below w3.heap.size w3 wx → Ints .i64 wx a xs → xs.length ≤ c → (a = none → c = 0) → Calls Try.prog 23 #[.agg #[.int .i64 t, .slice a xs.length c], .slice al l.length cl, .slice aq asks.length cq, .slice acs asks.length ccs, .int .i64 Q] wx (NextR t xs l T C Q wx)) := Lib.hid fun wx a c hb hi hca hna => by
    obtain ⟨rq, ic, lq, lc, b3'⟩ := HR.out
    have hb0 := Below.next b3' hb
    have := next_any t xs l T C Q wx a aq al acs c cq cl ccs hi hca hna (by omega) (rq.below hb) (HX.out.below hb0) (ic.below hb) hc (by omega) (by rw [HML.out.1]; exact lq) (by rw [HML.out.1]; omega) (by rw [HML.out.2]; exact lc) (by rw [HML.out.2]; omega)
    rw [HML.out.1, HML.out.2] at this
    exact this
  have RN : Hid (∀ wx ax' cx', Below w3.heap.size w3 wx → Shs wx ax' l → l.length ≤ cx' → Calls Try.prog 24 #[.agg #[.int .i64 t, .slice ax xs.length cx], .slice ax' l.length cx', .slice aq asks.length cq, .slice acs asks.length ccs, .int .i64 Q] wx (NextR t xs l T C Q wx)) := Lib.hid fun wx ax' cx' hb hs hcc => by
    obtain ⟨rq, ic, lq, lc, b3'⟩ := HR.out
    have hb0 := Below.next b3' hb
    have := rnext_any t xs l T C Q wx ax aq ax' acs cx cq cx' ccs (HXS.out.below hb0) hcx hxn (by omega) (rq.below hb) hs (ic.below hb) hcc (by omega) (by rw [HML.out.1]; exact lq) (by rw [HML.out.1]; omega) (by rw [HML.out.2]; exact lc) (by rw [HML.out.2]; omega)
    rw [HML.out.1, HML.out.2] at this
    exact this
  have DF := Lib.hid (fun wx (hb : Below w.heap.size w wx) => defined_any l al cl wx (HX.out.below hb) hc (by omega))
  have hb03 : Below w.heap.size w w3 := HR.out.2.2.2.2
  have hown0 : (w3.alloc (.cells #[] 3)).ownsRow w3.heap.size 3 1 (.slice (some ⟨w3.heap.size, 0, none⟩) 0 0) 0 [] := World.ownsRow_lit (base := w3.heap.size) (e := 3) (size := 1) w3 #[] 0 (by omega) (by unfold maxLen; omega) rfl
  have hxv : Vals (w3.alloc (.cells #[] 3)) ax (xs.map (Value.int .i64)) := ((HXS.out.below hb03).below (below_alloc (Below.refl _ _) _)).vals
  obtain ⟨i0, hi, hz0, hz1, hz2⟩ := info_parts info3
  clear hb03
  have hlen := nxG_len t xs l T C Q hx80
  go_wp2_with (at_builtin; refine wpList_append_vals _ rfl _ _ 27 rfl w3.heap.size 3 i0 (.int .i64 0) 8 Try.underlying27 hi hz0 hz1 hz2 rfl _ 0 [] rfl hown0 ax cx xs.length (xs.map (Value.int .i64)) (by simp) rfl hxv (ints_oneCell _ _) hxn (by unfold maxLen; omega) (by omega) (by simp) ?_)
  intro v6 w6 hown6 hgrow6
  have hown6 : w6.ownsRow w3.heap.size 3 1 v6 xs.length (xs.map (Value.int .i64)) := by simpa using hown6
  have L6 : Below w3.heap.size w3 w6 := below_app (w := w3) (below_alloc (Below.refl _ _) _) hgrow6 hown0
  obtain ⟨a6, c6, hv6, hva6⟩ := vals_own hown6
  rw [List.length_map] at hv6
  subst hv6
  have I6 : Ints .i64 w6 a6 xs := Vals.ints hva6
  have hc6 : xs.length ≤ c6 := by have := own_cap hown6; simpa using this
  have NXx := Lib.hid (NX.out w6 a6 c6 L6 I6 hc6 (own_nil hown6))
  have H6 := Lib.hid L6
  clear hown6 hown0 hgrow6 hxv hva6 I6 L6 NX hc6 hi hz0 hz1 hz2
  obtain ⟨G, hG⟩ : ∃ G, nxG t xs l T C Q = G := ⟨_, rfl⟩
  obtain ⟨E, hE⟩ : ∃ E, nxE t xs l T.length C Q = E := ⟨_, rfl⟩
  rw [hG] at hlen
  have HG := Lib.hid (And.intro hG hE)
  clear hG hE
  obtain ⟨⟨GT, GC⟩, GI⟩ := G
  dsimp only at hlen
  go_wp2_with fail
  refine NXx.out.mono ?_
  rintro e w7 hN
  unfold NextR at hN
  rw [HG.out.1, HG.out.2] at hN
  dsimp only at hN
  obtain ⟨a7, c7, rfl, i7, l7, b7⟩ := hN
  obtain ⟨W8, hW8⟩ : ∃ W8, W8 = w7.alloc (.cells #[.int .i64 GT, .slice a7 GC.length c7] 31) := ⟨_, rfl⟩
  have B8 : Blk W8 w7.heap.size 31 #[.int .i64 GT, .slice a7 GC.length c7] := by rw [hW8]; exact Blk.new _ _ _
  have i8 : Ints .i64 W8 a7 GC := by rw [hW8]; exact i7.below (below_alloc (Below.refl _ _) _)
  have L8 : Below w3.heap.size w3 W8 := by rw [hW8]; exact below_alloc (Below.next H6.out b7) _
  have L08 := Below.next HR.out.2.2.2.2 L8
  have H8 := Lib.hid (And.intro B8 (And.intro i8 (And.intro L8 (And.intro L08 l7))))
  clear B8 i8 L8 L08 b7 i7 l7
  go_wp2_with fail
  rw [← hW8]
  clear hW8
  refine (DF.out _ H8.out.2.2.2.1).mono ?_
  rintro e w9 ⟨a9, c9, rfl, s9, l9, b9⟩
  have RNx := Lib.hid (RN.out w9 a9 c9 (Below.next H8.out.2.2.1 b9) s9 l9)
  have H9 := Lib.hid b9
  clear s9 l9 b9 RN DF
  go_wp2_with fail
  refine RNx.out.mono ?_
  rintro e w10 hN
  unfold NextR at hN
  rw [HG.out.1, HG.out.2] at hN
  dsimp only at hN
  obtain ⟨a10, c10, rfl, i10, l10, b10⟩ := hN
  obtain ⟨W11, hW11⟩ : ∃ W11, W11 = w10.alloc (.cells #[.int .i64 GT, .slice a10 GC.length c10] 35) := ⟨_, rfl⟩
  have B11 : Blk W11 w10.heap.size 35 #[.int .i64 GT, .slice a10 GC.length c10] := by rw [hW11]; exact Blk.new _ _ _
  have b811 : Below W8.heap.size W8 W11 := by rw [hW11]; exact below_alloc (Below.next H9.out b10) _
  obtain ⟨B8, i8, L8, L08, l7⟩ := H8.out
  have SM := same_any GC GC a7 a10 c7 c10 W11 (i8.below b811) (by rw [hW11]; exact i10.below (below_alloc (Below.refl _ _) _)) l7 l10 (by omega) (by omega)
  rw [decide_eq_true rfl] at SM
  replace SM := Lib.hid SM
  have B811 := B8.below b811
  have d0 : W11.cell? ⟨w7.heap.size, 0, none⟩ = some (.int .i64 GT) := B811.cell 0
  have d1 : W11.cell? ⟨w7.heap.size, 1, none⟩ = some (.slice a7 GC.length c7) := B811.cell 1
  have d2 : W11.cell? ⟨w10.heap.size, 0, none⟩ = some (.int .i64 GT) := B11.cell 0
  have d3 : W11.cell? ⟨w10.heap.size, 1, none⟩ = some (.slice a10 GC.length c10) := B11.cell 1
  have q5 : (E == E) = true := by simp
  have q6 : ((GI : Int) == (GI : Int)) = true := by simp
  have q7 : ((GT : Int) == (GT : Int)) = true := by simp
  have HF := Lib.hid (Below.next L08 b811)
  clear i10 l10 b10 B11 b811 B8 i8 L8 L08 l7 B811 H8 H9 H6 HG
  rw [hW11] at d0 d1 d2 d3
  go_wp2_with fail
  rw [← hW11]
  clear hW11 d0 d1 d2 d3
  refine SM.out.mono ?_
  rintro e w12 ⟨rfl, b12⟩
  have HE := Lib.hid (Below.next HF.out b12)
  clear b12
  go_wp2
  go_ret
  exact ⟨rfl, HE.out⟩
end Go.Proofs.Ytdfnpknekjgkiaa
