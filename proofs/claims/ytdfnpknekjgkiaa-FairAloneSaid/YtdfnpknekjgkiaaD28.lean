/- The law Alone. -/
import Derived.Test.YtdfnpknekjgkiaaD27
namespace Go.Proofs.Ytdfnpknekjgkiaa
open Go.RowKit
open Go.Proofs.YtdfnpknekjgkiaaW.PrintLast
set_option linter.unusedVariables false
set_option linter.unusedSimpArgs false

theorem nxG_in {t : Int} {xs : List Int} {l : Shares} {ts : List ByteArray} {cs : List Int} {Q : Int} (h : nxE t xs l ts.length cs Q = 0) : (nxG t xs l ts cs Q).2 < ts.length ∧ (nxG t xs l ts cs Q).1.1 ≤ l.length ∧ (nxG t xs l ts cs Q).1.2.length = l.length + 1 := by
  unfold nxG
  rw [if_pos h]
  have h2 := h
  unfold nxE at h2
  by_cases hex : exOf t xs l ts.length cs Q = 0
  case neg => rw [if_pos hex] at h2; exact absurd h2 hex
  rw [if_neg (fun k => k hex)] at h2
  by_cases hn : ts.length = 0
  · rw [if_pos hn] at h2; cases h2
  obtain ⟨t', rfl, g, hl, ht, hin⟩ := exOf_good hex
  obtain ⟨j, hj⟩ := rep_false ts.length (by omega)
  have ok := cfg_ok g (List.length_replicate (n := ts.length) (a := false)) hj
  obtain ⟨s', a, _, hst, e⟩ := Cfg.go_ind ok (J := fun _ => True) (fun _ _ _ _ => trivial) _ _ (Nat.lt_succ_self _) hin trivial
  have e2 : (cfgOf l cs Q).go (frontsOf l ts (List.replicate ts.length false)) (((t' : Int)).toNat, xs) = _ := e
  rw [e2]
  unfold Cfg.took
  have hp : s'.1 ≤ l.length := a.turn
  have h3 := hst.1
  refine ⟨?_, hp, by simp only [List.length_set]; exact a.len⟩
  rw [frontsOf_at l ts _ hp] at h3 ⊢
  have h4 := (frontOf_is l ts (List.replicate ts.length false) s'.1).lt h3
  show (frontOf l ts (List.replicate ts.length false) s'.1).toNat < ts.length
  omega
theorem nxG_err {t : Int} {xs : List Int} {l : Shares} {ts : List ByteArray} {cs : List Int} {Q : Int} (h : nxE t xs l ts.length cs Q ≠ 0) : nxG t xs l ts cs Q = ((0, []), 0) := by
  unfold nxG; rw [if_neg h]
set_option maxRecDepth 100000 in
set_option maxHeartbeats 8000000 in
theorem alone_law (t : Int) (xs : List Int) (l : Shares) (tn : ByteArray) (n : Int) (Q : Int) (w : World) (ax al : Option Addr) (cx cl : Nat)
    (hxs : Ints .i64 w ax xs) (hx : Shs w al l) (hcx : xs.length ≤ cx) (hc : l.length ≤ cl) (hxn : ax = none → cx = 0) (hlx : xs.length ≤ 9223372036854775807) (hl : l.length ≤ 9223372036854775807) (hr : -9223372036854775808 ≤ n ∧ n ≤ 9223372036854775807) :
    Calls Try.prog 8 #[.int .i64 t, .slice ax xs.length cx, .slice al l.length cl, .agg #[.string tn, .int .i64 n], .int .i64 Q] w fun e w' => e = .returned (.bool true) ∧ Below w.heap.size w w' := by
  obtain ⟨asks, hasks⟩ : ∃ asks : Shares, asks = [(tn, n)] := ⟨_, rfl⟩
  have hal : asks.length = 1 := by rw [hasks]; rfl
  obtain ⟨W0, hW0⟩ : ∃ W0, W0 = w.alloc (.cells #[.string tn, .int .i64 n] 46) := ⟨_, rfl⟩
  have HXS := Lib.hid hxs
  have HX := Lib.hid hx
  have hb0 : Below w.heap.size w W0 := by rw [hW0]; exact below_alloc (Below.refl _ _) _
  have A0 : Blk W0 w.heap.size 46 #[.string tn, .int .i64 n] := by rw [hW0]; exact Blk.new _ _ _
  have HB0 := Lib.hid (And.intro hb0 A0)
  have MK : Hid (∀ wx : World, Shs (wx.alloc (.cells #[.string tn, .int .i64 n] 46)) (some ⟨wx.heap.size, 0, none⟩) asks) := Lib.hid fun wx => by rw [hasks]; exact shs_alloc wx [(tn, n)] 46
  have FW := Lib.hid (fun wx aa (hb : Below w.heap.size w wx) (hA : Shs wx aa asks) => few_any l asks Q al aa cl 1 wx (hx.below hb) hA hc (by omega) hl (by omega) (by rw [hasks]; intro s hs; simp at hs; subst hs; exact hr))
  have QU := Lib.hid (fun wx aa (hA : Shs wx aa asks) => queue_any asks aa 1 wx hA (by omega) (by omega))
  rw [hal] at FW QU
  clear hx hxs hb0 A0 hasks
  go_enter Try.func8, Try.ntmps8
  go_wp2_with fail
  rw [← hW0]
  clear hW0
  refine (lives_any _).mono ?_
  rintro e w1 ⟨rfl, hb1⟩
  have A1 := HB0.out.2.below hb1
  have L1 := Below.next HB0.out.1 hb1
  have a0 : w1.cell? ⟨w.heap.size, 0, none⟩ = some (.string tn) := A1.cell 0
  have a1 : w1.cell? ⟨w.heap.size, 1, none⟩ = some (.int .i64 n) := A1.cell 1
  obtain ⟨W2, hW2⟩ : ∃ W2, W2 = w1.alloc (.cells #[.string tn, .int .i64 n] 46) := ⟨_, rfl⟩
  have L2 : Below w.heap.size w W2 := by rw [hW2]; exact below_alloc L1 _
  have A2 : Blk W2 w.heap.size 46 #[.string tn, .int .i64 n] := by rw [hW2]; exact A1.alloc _
  have S2 : Shs W2 (some ⟨w1.heap.size, 0, none⟩) asks := by rw [hW2]; exact MK.out w1
  have FWx := Lib.hid (FW.out W2 _ L2 S2)
  have H2 := Lib.hid (And.intro L2 A2)
  clear A1 L1 L2 A2 S2 hb1 FW
  go_wp2_with fail
  rw [← hW2]
  refine FWx.out.mono ?_
  rintro e w2' ⟨b, rfl, hfew, hw2⟩
  rw [hw2]
  clear hw2 w2' hW2 FWx a0 a1
  cases b
  case false =>
    clear hfew
    go_wp2
    go_ret
    exact ⟨rfl, H2.out.1⟩
  obtain ⟨hl80, ha70⟩ := hfew rfl
  clear hfew
  by_cases hx80 : xs.length > 80
  case pos =>
    have q1 : decide ((xs.length : Int) > 80) = true := decide_eq_true (by omega)
    clear hx80
    go_wp2
    go_ret
    exact ⟨rfl, H2.out.1⟩
  have q1 : decide ((xs.length : Int) > 80) = false := decide_eq_false (by omega)
  have hx80 : xs.length ≤ 80 := by omega
  have a0 : W2.cell? ⟨w.heap.size, 0, none⟩ = some (.string tn) := H2.out.2.cell 0
  have a1 : W2.cell? ⟨w.heap.size, 1, none⟩ = some (.int .i64 n) := H2.out.2.cell 1
  have QUx := Lib.hid (QU.out _ _ (MK.out W2))
  have hL2' : Below w.heap.size w (W2.alloc (.cells #[.string tn, .int .i64 n] 46)) := below_alloc H2.out.1 _
  have HL2 := Lib.hid hL2'
  clear QU MK hL2'
  go_wp2_with fail
  refine QUx.out.mono ?_
  rintro e w3 ⟨aq, cq, acs, ccs, rfl, rq, ic, lq, lc, nc, b3⟩
  rw [hal] at lq lc ⊢
  have b03 := Below.next HL2.out b3
  obtain ⟨T, hT⟩ : ∃ T : List ByteArray, asks.map (fun s => s.1) = T := ⟨_, rfl⟩
  obtain ⟨C, hC⟩ : ∃ C : List Int, asks.map (fun s => s.2) = C := ⟨_, rfl⟩
  have HML : Hid (T.length = 1 ∧ C.length = 1) := Lib.hid ⟨by rw [← hT]; simpa using hal, by rw [← hC]; simpa using hal⟩
  rw [hT] at rq
  rw [hC] at ic
  have HR : Hid (Rqs w3 aq T ∧ Ints .i64 w3 acs C ∧ 1 ≤ cq ∧ 1 ≤ ccs ∧ Below w.heap.size w w3) := Lib.hid ⟨rq, ic, lq, lc, b03⟩
  clear hT hC rq ic lq lc b03 b3 nc a0 a1 ha70 QUx
  have NX : Hid (∀ wx a c, Below w3.heap.size w3 wx → Ints .i64 wx a xs → xs.length ≤ c → (a = none → c = 0) → Calls Try.prog 23 #[.agg #[.int .i64 t, .slice a xs.length c], .slice al l.length cl, .slice aq 1 cq, .slice acs 1 ccs, .int .i64 Q] wx (NextR t xs l T C Q wx)) := Lib.hid fun wx a c hb hi hca hna => by
    obtain ⟨rq, ic, lq, lc, b3'⟩ := HR.out
    have hb0 := Below.next b3' hb
    have := next_any t xs l T C Q wx a aq al acs c cq cl ccs hi hca hna (by omega) (rq.below hb) (HX.out.below hb0) (ic.below hb) hc (by omega) (by rw [HML.out.1]; exact lq) (by rw [HML.out.1]; omega) (by rw [HML.out.2]; exact lc) (by rw [HML.out.2]; omega)
    rw [HML.out.1, HML.out.2] at this
    exact this
  have NW := Lib.hid (new_any l al cl w3 (HX.out.below HR.out.2.2.2.2) hc (by omega))
  go_wp2_with fail
  refine NW.out.mono ?_
  rintro e w4 hN
  obtain ⟨a4, c4, rfl, i4, l4, b4⟩ := hN.ints
  obtain ⟨W5, hW5⟩ : ∃ W5, W5 = w4.alloc (.cells #[.int .i64 (newT l), .slice a4 (newC l).length c4] 31) := ⟨_, rfl⟩
  have b35 : Below w3.heap.size w3 W5 := by rw [hW5]; exact below_alloc b4 _
  have H5 := Lib.hid b35
  have hsz5 : W5.heap.size = w4.heap.size + 1 := by rw [hW5]; simp
  have hown0 : (W5.alloc (.cells #[] 3)).ownsRow W5.heap.size 3 1 (.slice (some ⟨w4.heap.size + 1, 0, none⟩) 0 0) 0 [] := by
    have := World.ownsRow_lit (base := W5.heap.size) (e := 3) (size := 1) W5 #[] 0 (by omega) (by unfold maxLen; omega) rfl
    rw [hsz5] at this ⊢; exact this
  have hxv : Vals (W5.alloc (.cells #[] 3)) ax (xs.map (Value.int .i64)) := ((HXS.out.below (Below.next HR.out.2.2.2.2 b35)).below (below_alloc (Below.refl _ _) _)).vals
  obtain ⟨i0, hi, hz0, hz1, hz2⟩ := info_parts info3
  clear hN i4 l4 b4 b35
  go_wp2_with (at_builtin; rw [← hW5]; refine wpList_append_vals _ rfl _ _ 27 rfl W5.heap.size 3 i0 (.int .i64 0) 8 Try.underlying27 hi hz0 hz1 hz2 rfl _ 0 [] rfl hown0 ax cx xs.length (xs.map (Value.int .i64)) (by simp) rfl hxv (ints_oneCell _ _) hxn (by unfold maxLen; omega) (by omega) (by simp) ?_)
  intro v6 w6 hown6 hgrow6
  rw [← hW5] at hgrow6
  clear hW5
  have hown6 : w6.ownsRow W5.heap.size 3 1 v6 xs.length (xs.map (Value.int .i64)) := by rw [hsz5]; simpa using hown6
  have L6 : Below w3.heap.size w3 w6 := Below.next H5.out (below_app (w := W5) (below_alloc (Below.refl _ _) _) hgrow6 hown0)
  obtain ⟨a6, c6, hv6, hva6⟩ := vals_own hown6
  rw [List.length_map] at hv6
  subst hv6
  have I6 : Ints .i64 w6 a6 xs := Vals.ints hva6
  have hc6 : xs.length ≤ c6 := by have := own_cap hown6; simpa using this
  have NXx := Lib.hid (NX.out w6 a6 c6 L6 I6 hc6 (own_nil hown6))
  have H6 := Lib.hid (Below.next HR.out.2.2.2.2 L6)
  clear hown6 hown0 hgrow6 hxv hva6 I6 L6 NX hc6 hi hz0 hz1 hz2 hsz5
  have GE : Hid (nxE t xs l T.length C Q ≠ 0 → nxG t xs l T C Q = ((0, []), 0)) := Lib.hid nxG_err
  have GI : Hid (nxE t xs l T.length C Q = 0 → (nxG t xs l T C Q).2 < 1 ∧ (nxG t xs l T C Q).1.1 ≤ l.length ∧ (nxG t xs l T C Q).1.2.length = l.length + 1) := Lib.hid fun h => by
    have := nxG_in h
    rw [HML.out.1] at this
    exact this
  have GK : Hid (ckOf l ≠ 0 → nxE t xs l T.length C Q = ckOf l) := Lib.hid exOf_ck
  obtain ⟨G, hG⟩ : ∃ G, nxG t xs l T C Q = G := ⟨_, rfl⟩
  obtain ⟨E, hE⟩ : ∃ E, nxE t xs l T.length C Q = E := ⟨_, rfl⟩
  rw [hG, hE] at GE GI
  rw [hE] at GK
  have HG := Lib.hid (And.intro hG hE)
  clear hG hE
  obtain ⟨⟨GT, GC⟩, GX⟩ := G
  obtain ⟨ck, hck⟩ : ∃ ck, ckOf l = ck := ⟨_, rfl⟩
  rw [hck] at GK ⊢
  clear hck
  go_wp2_with fail
  refine NXx.out.mono ?_
  rintro e w7 hN
  unfold NextR at hN
  rw [HG.out.1, HG.out.2] at hN
  dsimp only at hN
  obtain ⟨a7, c7, rfl, i7, l7, b7⟩ := hN
  obtain ⟨W8, hW8⟩ : ∃ W8, W8 = w7.alloc (.cells #[.int .i64 GT, .slice a7 GC.length c7] 31) := ⟨_, rfl⟩
  have B8 : Blk W8 w7.heap.size 31 #[.int .i64 GT, .slice a7 GC.length c7] := by rw [hW8]; exact Blk.new _ _ _
  have L8 : Below w.heap.size w W8 := by rw [hW8]; exact below_alloc (Below.next H6.out b7) _
  have d0 : W8.cell? ⟨w7.heap.size, 0, none⟩ = some (.int .i64 GT) := B8.cell 0
  have d1 : W8.cell? ⟨w7.heap.size, 1, none⟩ = some (.slice a7 GC.length c7) := B8.cell 1
  have HF := Lib.hid L8
  clear i7 l7 b7 B8 L8
  by_cases he : E = 0
  case neg =>
    have p1 : (E != 0) = true := by rw [bne_iff_ne]; exact he
    have p0 : (ck != 0) = true ∨ (ck != 0) = false := by cases (ck != 0) <;> simp
    have := GE.out he
    injection this with h1 h2
    injection h1 with h3 h4
    subst h2 h3 h4
    replace hW8 : W8 = w7.alloc (.cells #[.int .i64 0, .slice a7 0 c7] 31) := hW8
    replace d0 : W8.cell? ⟨w7.heap.size, 0, none⟩ = some (.int .i64 0) := d0
    replace d1 : W8.cell? ⟨w7.heap.size, 1, none⟩ = some (.slice a7 0 c7) := d1
    clear GE GI GK he HG
    rw [hW8] at d0 d1
    rcases p0 with p0 | p0
    all_goals
      go_wp2
      rw [← hW8]
      go_ret
      exact ⟨rfl, HF.out⟩
  subst he
  have hck0 : ck = 0 := by
    apply Classical.byContradiction
    intro h
    exact h (GK.out h).symm
  subst hck0
  obtain ⟨g1, g2, g3⟩ := GI.out rfl
  try dsimp only at g1 g2 g3
  obtain rfl : GX = 0 := by omega
  have r2 : decide ((GT : Int) ≥ 0) = true := decide_eq_true (by omega)
  have r3 : decide ((GT : Int) ≤ (l.length : Int)) = true := decide_eq_true (by omega)
  have r4 : ((GC.length : Int) == (l.length : Int) + 1) = true := by rw [beq_iff_eq]; omega
  have r5 : decide (GT ≤ l.length) = true := decide_eq_true g2
  generalize GC.length = gl at *
  clear GE GI GK HG g1 g3
  rw [hW8] at d0 d1
  go_wp2
  rw [← hW8]
  go_ret
  exact ⟨rfl, HF.out⟩
end Go.Proofs.Ytdfnpknekjgkiaa
