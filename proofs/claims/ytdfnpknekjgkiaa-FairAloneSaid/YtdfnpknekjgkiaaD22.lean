/- The law Orders. -/
import Derived.Test.YtdfnpknekjgkiaaD21
namespace Go.Proofs.Ytdfnpknekjgkiaa
open Go.RowKit
set_option linter.unusedVariables false
set_option linter.unusedSimpArgs false

def oints (xs : List Nat) : List Int := xs.map (fun (j : Nat) => (j : Int))
/-- The list that Order returns. -/
def ordL (l : Shares) (ts : List ByteArray) (cs : List Int) (Q : Int) : List Nat := if errOf l ts.length cs Q = 0 then orderOf l ts cs Q else []
theorem ordL_len (l : Shares) (ts : List ByteArray) (cs : List Int) (Q : Int) : (ordL l ts cs Q).length ≤ 64 := by
  unfold ordL
  by_cases h : errOf l ts.length cs Q = 0
  · rw [if_pos h]
    obtain ⟨g, _, ht⟩ := errOf_good h
    have := (ordN_in g ts.length (Nat.le_refl _)).olen
    unfold orderOf; omega
  · rw [if_neg h]; simp
theorem OrderR.ints {l : Shares} {ts : List ByteArray} {cs : List Int} {Q : Int} {w : World} {e : Ending} {w' : World} (h : OrderR l ts cs Q w e w') : ∃ a c, e = .returned (.tuple #[.slice a (ordL l ts cs Q).length c, .int .i64 (errOf l ts.length cs Q)]) ∧ Vals w' a (nInts (ordL l ts cs Q)) ∧ (ordL l ts cs Q).length ≤ c ∧ Below w.heap.size w w' := by
  unfold OrderR at h
  unfold ordL
  by_cases hn : errOf l ts.length cs Q = 0
  · rw [if_pos hn] at h ⊢
    obtain ⟨⟨v, rfl, ho⟩, hb⟩ := h
    obtain ⟨a, c, rfl, hv, hc, _, _⟩ := vals_nints ho
    exact ⟨a, c, by rw [hn], hv, hc, hb⟩
  · rw [if_neg hn] at h ⊢
    obtain ⟨rfl, hb⟩ := h
    exact ⟨none, 0, rfl, .inl rfl, Nat.le_refl _, hb⟩
def newT (l : Shares) : Int := if ckOf l = 0 then l.length else 0
def newC (l : Shares) : List Int := if ckOf l = 0 then List.replicate (l.length + 1) 0 else []
theorem newC_len (l : Shares) : (newC l).length ≤ 65 := by
  unfold newC
  by_cases h : ckOf l = 0
  · rw [if_pos h]; have := ckOf_len h; simp; omega
  · rw [if_neg h]; simp
theorem NewR.ints {l : Shares} {w : World} {e : Ending} {w' : World} (h : NewR l w e w') : ∃ a c, e = .returned (.tuple #[.agg #[.int .i64 (newT l), .slice a (newC l).length c], .int .i64 (ckOf l)]) ∧ Ints .i64 w' a (newC l) ∧ (newC l).length ≤ c ∧ Below w.heap.size w w' := by
  unfold NewR at h
  unfold newT newC
  by_cases hn : ckOf l = 0
  · simp only [if_pos hn] at h ⊢
    obtain ⟨⟨g, rfl, hr⟩, hb⟩ := h
    exact ⟨_, _, by rw [hn, List.length_replicate], hr.vals.ints, by simp, hb⟩
  · simp only [if_neg hn] at h ⊢
    obtain ⟨rfl, hb⟩ := h
    exact ⟨none, 0, rfl, .inl rfl, Nat.le_refl _, hb⟩
/-- A cut of one element. -/
theorem cut_one (a : Option Addr) (n c : Nat) (hn : 1 ≤ n) (hc : n ≤ c) : ∃ A, (∀ W : World, (Instr.slice 27 (.slice a n c) (some (.int .i64 1)) none none).run Try.prog W = .ok (.slice A (n - 1) (c - 1)) W) ∧ (∀ (w : World) (xs : List Int), xs.length = n → Ints .i64 w a xs → Ints .i64 w A (xs.drop 1)) := by
  obtain ⟨i0, hi, hz0, hz1, hz2⟩ := info_parts info3
  refine ⟨if c = 1 then a else a.map (·.add (1 * 1)), fun W => ?_, fun w xs hx h => h.drop 1 c (by omega)⟩
  have := drop_run (P := Try.prog) 27 3 Try.underlying27 hi .i64 a n c 1 hn W
  rw [hz1] at this
  exact this
set_option maxRecDepth 100000 in
set_option maxHeartbeats 8000000 in
theorem orders_main (l : Shares) (ts : List ByteArray) (cs : List Int) (Q : Int) (w0 w : World) (al aq acs : Option Addr) (cl cq ccs : Nat) : True := trivial
set_option maxRecDepth 100000 in
set_option maxHeartbeats 8000000 in
theorem orders_law (l asks : Shares) (Q : Int) (sh : Bool) (w : World) (al aa : Option Addr) (cl ca : Nat)
    (hx : Shs w al l) (ha : Shs w aa asks) (hc : l.length ≤ cl) (hca : asks.length ≤ ca) (hl : l.length ≤ 9223372036854775807) (hla : asks.length ≤ 9223372036854775807) (hr : ∀ s ∈ asks, -9223372036854775808 ≤ s.2 ∧ s.2 ≤ 9223372036854775807) :
    Calls Try.prog 3 #[.slice al l.length cl, .slice aa asks.length ca, .int .i64 Q, .bool sh] w fun e w' => e = .returned (.bool true) ∧ Below w.heap.size w w' := by
  have HX := Lib.hid hx
  have HA := Lib.hid ha
  have FW := Lib.hid (fun wx (hb : Below w.heap.size w wx) => few_any l asks Q al aa cl ca wx (hx.below hb) (ha.below hb) hc hca hl hla hr)
  have HR0 := Lib.hid hr
  clear hx ha hr
  go_enter Try.func3, Try.ntmps3
  go_wp2_with fail
  refine (lives_any _).mono ?_
  rintro e w1 ⟨rfl, hb1⟩
  have HB := Lib.hid hb1
  clear hb1
  go_wp2_with fail
  refine (FW.out _ HB.out).mono ?_
  rintro e w2 ⟨b, rfl, hfew, rfl⟩
  cases b
  case false =>
    clear hfew
    go_wp2
    go_ret
    exact ⟨rfl, HB.out⟩
  obtain ⟨hl80, ha70⟩ := hfew rfl
  clear hfew
  have QU := Lib.hid (queue_any asks aa ca w2 (HA.out.below HB.out) hca (by omega))
  have hml : (asks.map (fun s => s.1)).length = asks.length := by simp
  have hml2 : (asks.map (fun s => s.2)).length = asks.length := by simp
  have HML := Lib.hid (And.intro hml hml2)
  clear hml hml2
  go_wp2_with fail
  refine QU.out.mono ?_
  rintro e w3 ⟨aq, cq, acs, ccs, rfl, rq, ic, lq, lc, nc, b3⟩
  have b3' := Below.next HB.out b3
  have HR := Lib.hid (And.intro rq (And.intro ic (And.intro lq (And.intro lc b3'))))
  clear rq b3 b3' QU nc
  by_cases hsh : sh = true ∧ 0 < asks.length
  case neg =>
    have hq : sh = false ∨ (sh = true ∧ asks.length = 0) := by
      cases sh
      · exact .inl rfl
      · exact .inr ⟨rfl, by
          rcases Nat.eq_zero_or_pos asks.length with h | h
          · exact h
          · exact absurd ⟨rfl, h⟩ hsh⟩
    clear ic lq lc hsh
    rcases hq with rfl | ⟨rfl, hz⟩
    · skip
      obtain ⟨T, hT⟩ : ∃ T : List ByteArray, asks.map (fun s => s.1) = T := ⟨_, rfl⟩
      obtain ⟨C, hC⟩ : ∃ C : List Int, asks.map (fun s => s.2) = C := ⟨_, rfl⟩
      replace HML : Hid (T.length = asks.length ∧ C.length = asks.length) := Lib.hid ⟨by rw [← hT]; simp, by rw [← hC]; simp⟩
      replace HR : Hid (Rqs w3 aq T ∧ Ints .i64 w3 acs C ∧ asks.length ≤ cq ∧ asks.length ≤ ccs ∧ Below w.heap.size w w3) := by
        obtain ⟨r1, r2, r3, r4, r5⟩ := HR.out
        exact Lib.hid ⟨by rw [← hT]; exact r1, by rw [← hC]; exact r2, by first | exact r3 | omega, by omega, r5⟩
      clear hT hC
      have NW := Lib.hid (fun wx (hb : Below w.heap.size w wx) => new_any l al cl wx (HX.out.below hb) hc (by omega))
      have DF := Lib.hid (fun wx (hb : Below w.heap.size w wx) => defined_any l al cl wx (HX.out.below hb) hc (by omega))
      go_wp2_with fail
      refine (NW.out _ HR.out.2.2.2.2).mono ?_
      rintro e w4 hN
      obtain ⟨a4, c4, rfl, i4, l4, b4⟩ := hN.ints
      obtain ⟨W5, hW5⟩ : ∃ W5, W5 = w4.alloc (.cells #[.int .i64 (newT l), .slice a4 (newC l).length c4] 31) := ⟨_, rfl⟩
      have B5 : Blk W5 w4.heap.size 31 #[.int .i64 (newT l), .slice a4 (newC l).length c4] := by rw [hW5]; exact Blk.new _ _ _
      have b35 : Below w3.heap.size w3 W5 := by rw [hW5]; exact below_alloc b4 _
      have i5 : Ints .i64 W5 a4 (newC l) := by rw [hW5]; exact i4.below (below_alloc (Below.refl _ _) _)
      have b05 := Below.next HR.out.2.2.2.2 b35
      have H5 := Lib.hid (And.intro B5 (And.intro b35 (And.intro i5 (And.intro b05 l4))))
      clear hN i4 l4 b4 B5 b35 i5 b05
      go_wp2_with fail
      rw [← hW5]
      clear hW5
      refine (DF.out _ H5.out.2.2.2.1).mono ?_
      rintro e w6 ⟨a6, c6, rfl, s6, l6, b6⟩
      have RN := Lib.hid (rnew_any l a6 c6 w6 s6 l6 (by omega))
      have H6 := Lib.hid b6
      clear s6 l6 b6
      go_wp2_with fail
      refine RN.out.mono ?_
      rintro e w7 hN
      obtain ⟨a7, c7, rfl, i7, l7, b7⟩ := hN.ints
      obtain ⟨W8, hW8⟩ : ∃ W8, W8 = w7.alloc (.cells #[.int .i64 (newT l), .slice a7 (newC l).length c7] 35) := ⟨_, rfl⟩
      have B8 : Blk W8 w7.heap.size 35 #[.int .i64 (newT l), .slice a7 (newC l).length c7] := by rw [hW8]; exact Blk.new _ _ _
      have b58 : Below W5.heap.size W5 W8 := by rw [hW8]; exact below_alloc (Below.next H6.out b7) _
      obtain ⟨B5, b35, i5, b05, l4⟩ := H5.out
      have SM := same_any (newC l) (newC l) a4 a7 c4 c7 W8 (i5.below b58) (by rw [hW8]; exact i7.below (below_alloc (Below.refl _ _) _)) l4 l7 (by have := newC_len l; omega) (by have := newC_len l; omega)
      rw [decide_eq_true rfl] at SM
      replace SM := Lib.hid SM
      have B58 := B5.below b58
      have d0 : W8.cell? ⟨w4.heap.size, 0, none⟩ = some (.int .i64 (newT l)) := B58.cell 0
      have d1 : W8.cell? ⟨w4.heap.size, 1, none⟩ = some (.slice a4 (newC l).length c4) := B58.cell 1
      have d2 : W8.cell? ⟨w7.heap.size, 0, none⟩ = some (.int .i64 (newT l)) := B8.cell 0
      have d3 : W8.cell? ⟨w7.heap.size, 1, none⟩ = some (.slice a7 (newC l).length c7) := B8.cell 1
      have q1 : (ckOf l != ckOf l) = false := by simp
      have q2 : (newT l != newT l) = false := by simp
      have H8 := Lib.hid (And.intro (Below.next b35 b58) (Below.next b05 b58))
      have hW8' := hW8
      clear hN i7 l7 b7 B8 b58 B5 b35 i5 b05 l4 B58 H5 H6 RN
      rw [hW8] at d0 d1 d2 d3
      go_wp2_with fail
      rw [← hW8]
      clear hW8 hW8' d0 d1 d2 d3
      refine SM.out.mono ?_
      rintro e w9 ⟨rfl, b9⟩
      have b39 := Below.next H8.out.1 b9
      have b09 := Below.next H8.out.2 b9
      obtain ⟨rq, ic, lq, lc, b3'⟩ := HR.out
      have hlx : (C).length ≤ 70 := by rw [HML.out.2]; (first | omega | (simp; omega) | simp)
      have OR := fun wx (hb : Below w9.heap.size w9 wx) ax cx (hs : Shs wx ax l) (hcx : l.length ≤ cx) => order_any l (T) (C) Q wx aq ax acs cq cx ccs (rq.below (Below.next b39 hb)) hs (ic.below (Below.next b39 hb)) hcx (by omega) (by rw [HML.out.1]; exact lq) (by rw [HML.out.1]; (first | omega | simp)) (by rw [HML.out.2]; exact lc) (by omega)
      have RO := fun wx (hb : Below w9.heap.size w9 wx) ax cx (hs : Shs wx ax l) (hcx : l.length ≤ cx) => rorder_any l (T) (C) Q wx aq ax acs cq cx ccs (rq.below (Below.next b39 hb)) hs (ic.below (Below.next b39 hb)) hcx (by omega) (by rw [HML.out.1]; exact lq) (by rw [HML.out.1]; (first | omega | simp)) (by rw [HML.out.2]; exact lc) (by omega)
      have hcl : (C).length = asks.length := HML.out.2
      rw [HML.out.1, hcl] at OR RO
      have ORx := Lib.hid (OR w9 (Below.refl _ _) al cl (HX.out.below b09) hc)
      replace RO := Lib.hid RO
      have H9 := Lib.hid b09
      have hol := ordL_len l (T) (C) Q
      clear rq ic lq lc b3' b39 b09 b9 OR hcl hlx
      go_wp2_with fail
      refine ORx.out.mono ?_
      rintro e w10 hO
      obtain ⟨a10, c10, rfl, v10, l10, b10⟩ := hO.ints
      have H10 := Lib.hid (And.intro (vals_ints_n v10) (And.intro l10 (And.intro b10 (Below.next H9.out b10))))
      clear hO v10 l10 b10
      go_wp2_with fail
      refine (DF.out _ H10.out.2.2.2).mono ?_
      rintro e w11 ⟨a11, c11, rfl, s11, l11, b11⟩
      have ROx := Lib.hid (RO.out w11 (Below.next H10.out.2.2.1 b11) a11 c11 s11 l11)
      have H11 := Lib.hid b11
      clear s11 l11 b11
      go_wp2_with fail
      refine ROx.out.mono ?_
      rintro e w12 hO
      obtain ⟨a12, c12, rfl, v12, l12, b12⟩ := hO.ints
      obtain ⟨v10, l10, b10, b010⟩ := H10.out
      have b1012 := Below.next H11.out b12
      have SM2 := same_any _ _ a10 a12 c10 c12 w12 (v10.below b1012) (vals_ints_n v12) (by simpa using l10) (by simpa using l12) (by simp; omega) (by simp; omega)
      rw [decide_eq_true rfl] at SM2
      simp only [List.length_map] at SM2
      replace SM2 := Lib.hid SM2
      have H12 := Lib.hid (Below.next b010 b1012)
      have q3 : (errOf l (T).length (C) Q == errOf l (T).length (C) Q) = true := by simp
      generalize (ordL l (T) (C) Q).length = on at *
      clear hO v10 l10 b10 b010 b1012 v12 l12 b12
      go_wp2_with fail
      refine SM2.out.mono ?_
      rintro e w13 ⟨rfl, b13⟩
      have H13 := Lib.hid (Below.next H12.out b13)
      clear b13
      go_wp2
      go_ret
      exact ⟨rfl, H13.out⟩

    · have p1 : decide ((asks.length : Int) > 0) = false := decide_eq_false (by omega)
      obtain rfl : asks = [] := List.eq_nil_of_length_eq_zero hz
      clear hz p1
      obtain ⟨T, hT⟩ : ∃ T : List ByteArray, ([] : List ByteArray) = T := ⟨_, rfl⟩
      obtain ⟨C, hC⟩ : ∃ C : List Int, ([] : List Int) = C := ⟨_, rfl⟩
      replace HML : Hid (T.length = 0 ∧ C.length = 0) := Lib.hid ⟨by rw [← hT]; simp, by rw [← hC]; simp⟩
      replace HR : Hid (Rqs w3 aq T ∧ Ints .i64 w3 acs C ∧ 0 ≤ cq ∧ 0 ≤ ccs ∧ Below w.heap.size w w3) := by
        obtain ⟨r1, r2, r3, r4, r5⟩ := HR.out
        exact Lib.hid ⟨by rw [← hT]; exact r1, by rw [← hC]; exact r2, by first | exact r3 | omega, by omega, r5⟩
      clear hT hC
      have NW := Lib.hid (fun wx (hb : Below w.heap.size w wx) => new_any l al cl wx (HX.out.below hb) hc (by omega))
      have DF := Lib.hid (fun wx (hb : Below w.heap.size w wx) => defined_any l al cl wx (HX.out.below hb) hc (by omega))
      go_wp2_with fail
      refine (NW.out _ HR.out.2.2.2.2).mono ?_
      rintro e w4 hN
      obtain ⟨a4, c4, rfl, i4, l4, b4⟩ := hN.ints
      obtain ⟨W5, hW5⟩ : ∃ W5, W5 = w4.alloc (.cells #[.int .i64 (newT l), .slice a4 (newC l).length c4] 31) := ⟨_, rfl⟩
      have B5 : Blk W5 w4.heap.size 31 #[.int .i64 (newT l), .slice a4 (newC l).length c4] := by rw [hW5]; exact Blk.new _ _ _
      have b35 : Below w3.heap.size w3 W5 := by rw [hW5]; exact below_alloc b4 _
      have i5 : Ints .i64 W5 a4 (newC l) := by rw [hW5]; exact i4.below (below_alloc (Below.refl _ _) _)
      have b05 := Below.next HR.out.2.2.2.2 b35
      have H5 := Lib.hid (And.intro B5 (And.intro b35 (And.intro i5 (And.intro b05 l4))))
      clear hN i4 l4 b4 B5 b35 i5 b05
      go_wp2_with fail
      rw [← hW5]
      clear hW5
      refine (DF.out _ H5.out.2.2.2.1).mono ?_
      rintro e w6 ⟨a6, c6, rfl, s6, l6, b6⟩
      have RN := Lib.hid (rnew_any l a6 c6 w6 s6 l6 (by omega))
      have H6 := Lib.hid b6
      clear s6 l6 b6
      go_wp2_with fail
      refine RN.out.mono ?_
      rintro e w7 hN
      obtain ⟨a7, c7, rfl, i7, l7, b7⟩ := hN.ints
      obtain ⟨W8, hW8⟩ : ∃ W8, W8 = w7.alloc (.cells #[.int .i64 (newT l), .slice a7 (newC l).length c7] 35) := ⟨_, rfl⟩
      have B8 : Blk W8 w7.heap.size 35 #[.int .i64 (newT l), .slice a7 (newC l).length c7] := by rw [hW8]; exact Blk.new _ _ _
      have b58 : Below W5.heap.size W5 W8 := by rw [hW8]; exact below_alloc (Below.next H6.out b7) _
      obtain ⟨B5, b35, i5, b05, l4⟩ := H5.out
      have SM := same_any (newC l) (newC l) a4 a7 c4 c7 W8 (i5.below b58) (by rw [hW8]; exact i7.below (below_alloc (Below.refl _ _) _)) l4 l7 (by have := newC_len l; omega) (by have := newC_len l; omega)
      rw [decide_eq_true rfl] at SM
      replace SM := Lib.hid SM
      have B58 := B5.below b58
      have d0 : W8.cell? ⟨w4.heap.size, 0, none⟩ = some (.int .i64 (newT l)) := B58.cell 0
      have d1 : W8.cell? ⟨w4.heap.size, 1, none⟩ = some (.slice a4 (newC l).length c4) := B58.cell 1
      have d2 : W8.cell? ⟨w7.heap.size, 0, none⟩ = some (.int .i64 (newT l)) := B8.cell 0
      have d3 : W8.cell? ⟨w7.heap.size, 1, none⟩ = some (.slice a7 (newC l).length c7) := B8.cell 1
      have q1 : (ckOf l != ckOf l) = false := by simp
      have q2 : (newT l != newT l) = false := by simp
      have H8 := Lib.hid (And.intro (Below.next b35 b58) (Below.next b05 b58))
      have hW8' := hW8
      clear hN i7 l7 b7 B8 b58 B5 b35 i5 b05 l4 B58 H5 H6 RN
      rw [hW8] at d0 d1 d2 d3
      go_wp2_with fail
      rw [← hW8]
      clear hW8 hW8' d0 d1 d2 d3
      refine SM.out.mono ?_
      rintro e w9 ⟨rfl, b9⟩
      have b39 := Below.next H8.out.1 b9
      have b09 := Below.next H8.out.2 b9
      obtain ⟨rq, ic, lq, lc, b3'⟩ := HR.out
      have hlx : (C).length ≤ 70 := by rw [HML.out.2]; (first | omega | (simp; omega) | simp)
      have OR := fun wx (hb : Below w9.heap.size w9 wx) ax cx (hs : Shs wx ax l) (hcx : l.length ≤ cx) => order_any l (T) (C) Q wx aq ax acs cq cx ccs (rq.below (Below.next b39 hb)) hs (ic.below (Below.next b39 hb)) hcx (by omega) (by rw [HML.out.1]; exact lq) (by rw [HML.out.1]; (first | omega | simp)) (by rw [HML.out.2]; exact lc) (by omega)
      have RO := fun wx (hb : Below w9.heap.size w9 wx) ax cx (hs : Shs wx ax l) (hcx : l.length ≤ cx) => rorder_any l (T) (C) Q wx aq ax acs cq cx ccs (rq.below (Below.next b39 hb)) hs (ic.below (Below.next b39 hb)) hcx (by omega) (by rw [HML.out.1]; exact lq) (by rw [HML.out.1]; (first | omega | simp)) (by rw [HML.out.2]; exact lc) (by omega)
      have hcl : (C).length = 0 := HML.out.2
      rw [HML.out.1, hcl] at OR RO
      have ORx := Lib.hid (OR w9 (Below.refl _ _) al cl (HX.out.below b09) hc)
      replace RO := Lib.hid RO
      have H9 := Lib.hid b09
      have hol := ordL_len l (T) (C) Q
      clear rq ic lq lc b3' b39 b09 b9 OR hcl hlx
      go_wp2_with fail
      refine ORx.out.mono ?_
      rintro e w10 hO
      obtain ⟨a10, c10, rfl, v10, l10, b10⟩ := hO.ints
      have H10 := Lib.hid (And.intro (vals_ints_n v10) (And.intro l10 (And.intro b10 (Below.next H9.out b10))))
      clear hO v10 l10 b10
      go_wp2_with fail
      refine (DF.out _ H10.out.2.2.2).mono ?_
      rintro e w11 ⟨a11, c11, rfl, s11, l11, b11⟩
      have ROx := Lib.hid (RO.out w11 (Below.next H10.out.2.2.1 b11) a11 c11 s11 l11)
      have H11 := Lib.hid b11
      clear s11 l11 b11
      go_wp2_with fail
      refine ROx.out.mono ?_
      rintro e w12 hO
      obtain ⟨a12, c12, rfl, v12, l12, b12⟩ := hO.ints
      obtain ⟨v10, l10, b10, b010⟩ := H10.out
      have b1012 := Below.next H11.out b12
      have SM2 := same_any _ _ a10 a12 c10 c12 w12 (v10.below b1012) (vals_ints_n v12) (by simpa using l10) (by simpa using l12) (by simp; omega) (by simp; omega)
      rw [decide_eq_true rfl] at SM2
      simp only [List.length_map] at SM2
      replace SM2 := Lib.hid SM2
      have H12 := Lib.hid (Below.next b010 b1012)
      have q3 : (errOf l (T).length (C) Q == errOf l (T).length (C) Q) = true := by simp
      generalize (ordL l (T) (C) Q).length = on at *
      clear hO v10 l10 b10 b010 b1012 v12 l12 b12
      go_wp2_with fail
      refine SM2.out.mono ?_
      rintro e w13 ⟨rfl, b13⟩
      have H13 := Lib.hid (Below.next H12.out b13)
      clear b13
      go_wp2
      go_ret
      exact ⟨rfl, H13.out⟩

  case pos =>
    obtain ⟨rfl, hp⟩ := hsh
    have p1 : decide ((asks.length : Int) > 0) = true := decide_eq_true (by omega)
    have p2 : decide (0 < asks.length) = true := decide_eq_true hp
    obtain ⟨A, hcut, hcu⟩ := cut_one acs asks.length ccs hp lc
    have HCU := Lib.hid hcu
    clear ic lq lc hcu
    obtain ⟨T, hT⟩ : ∃ T : List ByteArray, asks.map (fun s => s.1) = T := ⟨_, rfl⟩
    obtain ⟨C, hC⟩ : ∃ C : List Int, (asks.map (fun s => s.2)).drop 1 = C := ⟨_, rfl⟩
    replace HML : Hid (T.length = asks.length ∧ C.length = (asks.length - 1)) := Lib.hid ⟨by rw [← hT]; simp, by rw [← hC]; simp⟩
    replace HR : Hid (Rqs w3 aq T ∧ Ints .i64 w3 A C ∧ asks.length ≤ cq ∧ (asks.length - 1) ≤ (ccs - 1) ∧ Below w.heap.size w w3) := by
      obtain ⟨r1, r2, r3, r4, r5⟩ := HR.out
      exact Lib.hid ⟨by rw [← hT]; exact r1, by rw [← hC]; exact HCU.out _ _ (by simp) r2, by first | exact r3 | omega, by omega, r5⟩
    clear hT hC
    have NW := Lib.hid (fun wx (hb : Below w.heap.size w wx) => new_any l al cl wx (HX.out.below hb) hc (by omega))
    have DF := Lib.hid (fun wx (hb : Below w.heap.size w wx) => defined_any l al cl wx (HX.out.below hb) hc (by omega))
    go_wp2_with fail
    refine (NW.out _ HR.out.2.2.2.2).mono ?_
    rintro e w4 hN
    obtain ⟨a4, c4, rfl, i4, l4, b4⟩ := hN.ints
    obtain ⟨W5, hW5⟩ : ∃ W5, W5 = w4.alloc (.cells #[.int .i64 (newT l), .slice a4 (newC l).length c4] 31) := ⟨_, rfl⟩
    have B5 : Blk W5 w4.heap.size 31 #[.int .i64 (newT l), .slice a4 (newC l).length c4] := by rw [hW5]; exact Blk.new _ _ _
    have b35 : Below w3.heap.size w3 W5 := by rw [hW5]; exact below_alloc b4 _
    have i5 : Ints .i64 W5 a4 (newC l) := by rw [hW5]; exact i4.below (below_alloc (Below.refl _ _) _)
    have b05 := Below.next HR.out.2.2.2.2 b35
    have H5 := Lib.hid (And.intro B5 (And.intro b35 (And.intro i5 (And.intro b05 l4))))
    clear hN i4 l4 b4 B5 b35 i5 b05
    go_wp2_with fail
    rw [← hW5]
    clear hW5
    refine (DF.out _ H5.out.2.2.2.1).mono ?_
    rintro e w6 ⟨a6, c6, rfl, s6, l6, b6⟩
    have RN := Lib.hid (rnew_any l a6 c6 w6 s6 l6 (by omega))
    have H6 := Lib.hid b6
    clear s6 l6 b6
    go_wp2_with fail
    refine RN.out.mono ?_
    rintro e w7 hN
    obtain ⟨a7, c7, rfl, i7, l7, b7⟩ := hN.ints
    obtain ⟨W8, hW8⟩ : ∃ W8, W8 = w7.alloc (.cells #[.int .i64 (newT l), .slice a7 (newC l).length c7] 35) := ⟨_, rfl⟩
    have B8 : Blk W8 w7.heap.size 35 #[.int .i64 (newT l), .slice a7 (newC l).length c7] := by rw [hW8]; exact Blk.new _ _ _
    have b58 : Below W5.heap.size W5 W8 := by rw [hW8]; exact below_alloc (Below.next H6.out b7) _
    obtain ⟨B5, b35, i5, b05, l4⟩ := H5.out
    have SM := same_any (newC l) (newC l) a4 a7 c4 c7 W8 (i5.below b58) (by rw [hW8]; exact i7.below (below_alloc (Below.refl _ _) _)) l4 l7 (by have := newC_len l; omega) (by have := newC_len l; omega)
    rw [decide_eq_true rfl] at SM
    replace SM := Lib.hid SM
    have B58 := B5.below b58
    have d0 : W8.cell? ⟨w4.heap.size, 0, none⟩ = some (.int .i64 (newT l)) := B58.cell 0
    have d1 : W8.cell? ⟨w4.heap.size, 1, none⟩ = some (.slice a4 (newC l).length c4) := B58.cell 1
    have d2 : W8.cell? ⟨w7.heap.size, 0, none⟩ = some (.int .i64 (newT l)) := B8.cell 0
    have d3 : W8.cell? ⟨w7.heap.size, 1, none⟩ = some (.slice a7 (newC l).length c7) := B8.cell 1
    have q1 : (ckOf l != ckOf l) = false := by simp
    have q2 : (newT l != newT l) = false := by simp
    have H8 := Lib.hid (And.intro (Below.next b35 b58) (Below.next b05 b58))
    have hW8' := hW8
    clear hN i7 l7 b7 B8 b58 B5 b35 i5 b05 l4 B58 H5 H6 RN
    rw [hW8] at d0 d1 d2 d3
    go_wp2_with fail
    rw [← hW8]
    clear hW8 hW8' d0 d1 d2 d3
    refine SM.out.mono ?_
    rintro e w9 ⟨rfl, b9⟩
    have b39 := Below.next H8.out.1 b9
    have b09 := Below.next H8.out.2 b9
    obtain ⟨rq, ic, lq, lc, b3'⟩ := HR.out
    have hlx : (C).length ≤ 70 := by rw [HML.out.2]; (first | omega | (simp; omega) | simp)
    have OR := fun wx (hb : Below w9.heap.size w9 wx) ax cx (hs : Shs wx ax l) (hcx : l.length ≤ cx) => order_any l (T) (C) Q wx aq ax A cq cx (ccs - 1) (rq.below (Below.next b39 hb)) hs (ic.below (Below.next b39 hb)) hcx (by omega) (by rw [HML.out.1]; exact lq) (by rw [HML.out.1]; (first | omega | simp)) (by rw [HML.out.2]; exact lc) (by omega)
    have RO := fun wx (hb : Below w9.heap.size w9 wx) ax cx (hs : Shs wx ax l) (hcx : l.length ≤ cx) => rorder_any l (T) (C) Q wx aq ax A cq cx (ccs - 1) (rq.below (Below.next b39 hb)) hs (ic.below (Below.next b39 hb)) hcx (by omega) (by rw [HML.out.1]; exact lq) (by rw [HML.out.1]; (first | omega | simp)) (by rw [HML.out.2]; exact lc) (by omega)
    have hcl : (C).length = (asks.length - 1) := HML.out.2
    rw [HML.out.1, hcl] at OR RO
    have ORx := Lib.hid (OR w9 (Below.refl _ _) al cl (HX.out.below b09) hc)
    replace RO := Lib.hid RO
    have H9 := Lib.hid b09
    have hol := ordL_len l (T) (C) Q
    clear rq ic lq lc b3' b39 b09 b9 OR hcl hlx
    go_wp2_with fail
    refine ORx.out.mono ?_
    rintro e w10 hO
    obtain ⟨a10, c10, rfl, v10, l10, b10⟩ := hO.ints
    have H10 := Lib.hid (And.intro (vals_ints_n v10) (And.intro l10 (And.intro b10 (Below.next H9.out b10))))
    clear hO v10 l10 b10
    go_wp2_with fail
    refine (DF.out _ H10.out.2.2.2).mono ?_
    rintro e w11 ⟨a11, c11, rfl, s11, l11, b11⟩
    have ROx := Lib.hid (RO.out w11 (Below.next H10.out.2.2.1 b11) a11 c11 s11 l11)
    have H11 := Lib.hid b11
    clear s11 l11 b11
    go_wp2_with fail
    refine ROx.out.mono ?_
    rintro e w12 hO
    obtain ⟨a12, c12, rfl, v12, l12, b12⟩ := hO.ints
    obtain ⟨v10, l10, b10, b010⟩ := H10.out
    have b1012 := Below.next H11.out b12
    have SM2 := same_any _ _ a10 a12 c10 c12 w12 (v10.below b1012) (vals_ints_n v12) (by simpa using l10) (by simpa using l12) (by simp; omega) (by simp; omega)
    rw [decide_eq_true rfl] at SM2
    simp only [List.length_map] at SM2
    replace SM2 := Lib.hid SM2
    have H12 := Lib.hid (Below.next b010 b1012)
    have q3 : (errOf l (T).length (C) Q == errOf l (T).length (C) Q) = true := by simp
    generalize (ordL l (T) (C) Q).length = on at *
    clear hO v10 l10 b10 b010 b1012 v12 l12 b12
    go_wp2_with fail
    refine SM2.out.mono ?_
    rintro e w13 ⟨rfl, b13⟩
    have H13 := Lib.hid (Below.next H12.out b13)
    clear b13
    go_wp2
    go_ret
    exact ⟨rfl, H13.out⟩

end Go.Proofs.Ytdfnpknekjgkiaa
