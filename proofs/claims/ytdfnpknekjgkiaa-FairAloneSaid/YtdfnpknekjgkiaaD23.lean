/- The law Serves. -/
import Derived.Test.YtdfnpknekjgkiaaD22
namespace Go.Proofs.Ytdfnpknekjgkiaa
open Go.RowKit
set_option linter.unusedVariables false
set_option linter.unusedSimpArgs false

/-- Where a request is served. -/
def posOf (o : List Nat) (j : Nat) : Nat := o.findIdx (fun x => decide (x = j))
theorem posOf_le (o : List Nat) (j : Nat) : posOf o j ≤ o.length := List.findIdx_le_length
theorem posOf_at {o : List Nat} {j : Nat} (h : posOf o j < o.length) : o[posOf o j]'h = j := of_decide_eq_true (List.findIdx_getElem (w := h))
theorem posOf_mem {o : List Nat} {j : Nat} (h : j ∈ o) : posOf o j < o.length := by
  unfold posOf
  rw [List.findIdx_lt_length]
  exact ⟨j, h, by simp⟩
theorem posOf_take {o : List Nat} {j a : Nat} (h : j ∈ o.take a) : posOf o j < a := by
  obtain ⟨b, hb, hj⟩ := List.getElem_of_mem h
  rw [List.length_take] at hb
  rw [List.getElem_take] at hj
  rcases Nat.lt_or_ge (posOf o j) a with h1 | h1
  · exact h1
  · have hlt : b < posOf o j := by omega
    have := List.not_of_lt_findIdx hlt
    simp [hj] at this
theorem posOf_nodup {o : List Nat} (hn : o.Nodup) {a : Nat} (ha : a < o.length) : posOf o o[a] = a := by
  have h1 := posOf_mem (List.getElem_mem ha)
  exact nodup_inj hn h1 ha (posOf_at h1)
/-- The places of the first i served. -/
def atOf (o : List Nat) (n i : Nat) : List Int := (List.range n).map (fun j => if posOf o j < i then (posOf o j : Int) + 1 else 0)
theorem atOf_len (o : List Nat) (n i : Nat) : (atOf o n i).length = n := by simp [atOf]
theorem atOf_zero (o : List Nat) (n : Nat) : atOf o n 0 = List.replicate n 0 := by
  unfold atOf
  apply List.ext_getElem (by simp)
  intro p h1 h2
  simp
theorem atOf_at (o : List Nat) (n i : Nat) {j : Nat} (hj : j < n) (d : Int) : (atOf o n i).getD j d = if posOf o j < i then (posOf o j : Int) + 1 else 0 := by
  simp [atOf, hj]
theorem atOf_set {o : List Nat} (hn : o.Nodup) (n : Nat) {i : Nat} (hi : i < o.length) : (atOf o n i).set o[i] ((i : Int) + 1) = atOf o n (i + 1) := by
  unfold atOf
  apply List.ext_getElem (by simp)
  intro p h1 h2
  simp at h1 h2
  simp only [List.getElem_set, List.getElem_map, List.getElem_range]
  by_cases e : o[i] = p
  · rw [if_pos e, ← e, posOf_nodup hn hi, if_pos (by omega)]
  · rw [if_neg e]
    by_cases h : posOf o p < i
    · rw [if_pos h, if_pos (by omega)]
    · rw [if_neg h, if_neg]
      intro h3
      have h4 : posOf o p = i := by omega
      have h5 := posOf_at (o := o) (j := p) (by omega)
      simp only [h4] at h5
      exact e h5
theorem all_in {o : List Nat} {n : Nat} (hn : o.Nodup) (hl : o.length = n) (hlt : ∀ j ∈ o, j < n) {j : Nat} (hj : j < n) : j ∈ o := by
  apply Classical.byContradiction
  intro h
  have h1 : (j :: o).Nodup := List.nodup_cons.2 ⟨h, hn⟩
  have h2 := nodup_sub_len (ys := List.range n) h1 (fun x hx => by
    rcases List.mem_cons.1 hx with rfl | hx
    · exact List.mem_range.2 hj
    · exact List.mem_range.2 (hlt x hx))
  simp at h2
  omega
/-- Those of one tenant come in order. -/
theorem at_order {l : Shares} {ts : List ByteArray} {cs : List Int} {Q : Int} (g : Good l ts cs Q) {i k : Nat} (hi : i < ts.length) (hk : k < i) (he : ts.getD k default = ts.getD i default) : posOf (orderOf l ts cs Q) k < posOf (orderOf l ts cs Q) i ∧ posOf (orderOf l ts cs Q) i < (orderOf l ts cs Q).length := by
  have h := ordN_in g ts.length (Nat.le_refl _)
  have ho : orderOf l ts cs Q = (ordN l ts cs Q ts.length).out := rfl
  rw [ho]
  generalize ordN l ts cs Q ts.length = o at *
  have hin := all_in h.nodup h.olen h.lt hi
  have hp := posOf_mem hin
  have hpa := posOf_at hp
  have := h.first (posOf o.out i) hp k (by rw [hpa]; exact hk) (by rw [hpa]; exact he)
  exact ⟨posOf_take this, hp⟩
set_option maxRecDepth 100000 in
set_option maxHeartbeats 8000000 in
theorem serves_law (l asks : Shares) (Q : Int) (w : World) (al aa : Option Addr) (cl ca : Nat)
    (hx : Shs w al l) (ha : Shs w aa asks) (hc : l.length ≤ cl) (hca : asks.length ≤ ca) (hl : l.length ≤ 9223372036854775807) (hla : asks.length ≤ 9223372036854775807) (hr : ∀ s ∈ asks, -9223372036854775808 ≤ s.2 ∧ s.2 ≤ 9223372036854775807) :
    Calls Try.prog 5 #[.slice al l.length cl, .slice aa asks.length ca, .int .i64 Q] w fun e w' => e = .returned (.bool true) ∧ Below w.heap.size w w' := by
  have HX := Lib.hid hx
  have HA := Lib.hid ha
  have FW := Lib.hid (fun wx (hb : Below w.heap.size w wx) => few_any l asks Q al aa cl ca wx (hx.below hb) (ha.below hb) hc hca hl hla hr)
  have HR0 := Lib.hid hr
  clear hx ha hr
  go_enter Try.func5, Try.ntmps5
  go_wp2_with fail
  refine (lives_any _).mono ?_
  rintro e w1 ⟨rfl, hb1⟩
  have HB := Lib.hid hb1
  clear hb1
  go_wp2_with fail
  refine (FW.out _ HB.out).mono ?_
  rintro e w2 ⟨b, rfl, hfew, rfl⟩
  cases b
  case false =>
    clear hfew
    go_wp2
    go_ret
    exact ⟨rfl, HB.out⟩
  obtain ⟨hl80, ha70⟩ := hfew rfl
  clear hfew
  have QU := Lib.hid (queue_any asks aa ca w2 (HA.out.below HB.out) hca (by omega))
  have hml : (asks.map (fun s => s.1)).length = asks.length := by simp
  have hml2 : (asks.map (fun s => s.2)).length = asks.length := by simp
  have HML := Lib.hid (And.intro hml hml2)
  clear hml hml2
  go_wp2_with fail
  refine QU.out.mono ?_
  rintro e w3 ⟨aq, cq, acs, ccs, rfl, rq, ic, lq, lc, nc, b3⟩
  have b3' := Below.next HB.out b3
  have HR := Lib.hid (And.intro rq (And.intro ic (And.intro lq (And.intro lc b3'))))
  clear rq b3 b3' QU nc
  obtain ⟨T, hT⟩ : ∃ T : List ByteArray, asks.map (fun s => s.1) = T := ⟨_, rfl⟩
  obtain ⟨C, hC⟩ : ∃ C : List Int, asks.map (fun s => s.2) = C := ⟨_, rfl⟩
  replace HML : Hid (T.length = asks.length ∧ C.length = asks.length) := Lib.hid ⟨by rw [← hT]; simp, by rw [← hC]; simp⟩
  replace HR : Hid (Rqs w3 aq T ∧ Ints .i64 w3 acs C ∧ asks.length ≤ cq ∧ asks.length ≤ ccs ∧ Below w.heap.size w w3) := by
    obtain ⟨r1, r2, r3, r4, r5⟩ := HR.out
    exact Lib.hid ⟨by rw [← hT]; exact r1, by rw [← hC]; exact r2, r3, r4, r5⟩
  clear hT hC ic lq lc
  have OR : Hid (Calls Try.prog 16 #[.slice al l.length cl, .slice aq asks.length cq, .slice acs asks.length ccs, .int .i64 Q] w3 (OrderR l T C Q w3)) := by
    obtain ⟨rq, ic, lq, lc, b3'⟩ := HR.out
    have := order_any l T C Q w3 aq al acs cq cl ccs rq (HX.out.below b3') ic hc (by omega) (by rw [HML.out.1]; exact lq) (by rw [HML.out.1]; omega) (by rw [HML.out.2]; exact lc) (by rw [HML.out.2]; omega)
    rw [HML.out.1, HML.out.2] at this
    exact Lib.hid this
  go_wp2_with fail
  refine OR.out.mono ?_
  rintro e w4 hO
  clear OR
  by_cases he : errOf l T.length C Q = 0
  case neg =>
    unfold OrderR at hO
    rw [if_neg he] at hO
    obtain ⟨rfl, b4⟩ := hO
    have q1 : (errOf l T.length C Q != 0) = true := by rw [bne_iff_ne]; exact he
    have HB4 := Lib.hid (Below.next HR.out.2.2.2.2 b4)
    generalize errOf l T.length C Q = er at *
    clear b4 he
    go_wp2
    go_ret
    exact ⟨rfl, HB4.out⟩
  unfold OrderR at hO
  rw [if_pos he] at hO
  obtain ⟨⟨v, rfl, hown⟩, b4⟩ := hO
  obtain ⟨g, _, ht64⟩ := errOf_good he
  have oi := ordN_in g T.length (Nat.le_refl _)
  have hon : (orderOf l T C Q).length = asks.length := by rw [← HML.out.1]; exact oi.olen
  obtain ⟨ao, co, rfl, hvo, hco, _, _⟩ := vals_nints hown
  rw [hon] at hco ⊢
  have hnd : (orderOf l T C Q).Nodup := oi.nodup
  have hlt : ∀ j ∈ orderOf l T C Q, j < T.length := oi.lt
  have HO := Lib.hid (And.intro hvo (And.intro hnd hlt))
  have HG := Lib.hid g
  have HON := Lib.hid hon
  have b04 := Below.next HR.out.2.2.2.2 b4
  have HB4 := Lib.hid (And.intro b04 b4)
  have hmk := fun W => (make_ints0 W 0 asks.length (by omega) (Nat.zero_le _)).1
  have HM0 : Hid (RowI (w4.alloc (.cells (madeCells #[.int .i64 0] asks.length) 3)) w.heap.size w4.heap.size asks.length (atOf (orderOf l T C Q) asks.length 0) ∧ Below w4.heap.size w4 (w4.alloc (.cells (madeCells #[.int .i64 0] asks.length) 3))) := by
    have h2 := (make_ints0 w4 w.heap.size asks.length (by omega) b04.size).2
    rw [atOf_zero]
    exact Lib.hid ⟨h2, below_alloc (Below.refl _ _) _⟩
  clear hvo hco oi hnd hlt g hon b04 b4 he ht64 hown
  go_wp2
  obtain ⟨W5, hW5⟩ : ∃ W5, W5 = w4.alloc (.cells (madeCells #[.int .i64 0] asks.length) 3) := ⟨_, rfl⟩
  rw [← hW5] at HM0 ⊢
  have hgl : w4.heap.size ≤ w4.heap.size := Nat.le_refl _
  have HGE : Hid (w.heap.size ≤ w4.heap.size) := Lib.hid HB4.out.1.size
  obtain ⟨gf, hgf⟩ : ∃ gf, w4.heap.size = gf := ⟨_, rfl⟩
  replace HM0 : Hid (RowI W5 w.heap.size gf asks.length (atOf (orderOf l T C Q) asks.length 0) ∧ Below gf w4 W5) := by rw [← hgf]; exact HM0
  rw [hgf]
  have HGF := Lib.hid hgf
  clear hW5 hmk hgf hgl
  go_loopw [12] (fun ii wr => ∃ i : Nat, ii = .int .i64 i ∧ i ≤ asks.length ∧ Hid (RowI wr w.heap.size gf asks.length (atOf (orderOf l T C Q) asks.length i) ∧ Below gf w4 wr)) (fun ii _ => asks.length - (intOf ii).toNat)
  case atStart => exact ⟨0, rfl, by omega, HM0⟩
  case round =>
    clear HM0
    obtain ⟨i, rfl, hi, HM⟩ := hrel
    have HBW : Hid (Below w4.heap.size w4 wr) := Lib.hid (by rw [HGF.out]; exact HM.out.2)
    by_cases h : i < asks.length
    · have hio : i < (orderOf l T C Q).length := by rw [HON.out]; exact h
      obtain ⟨x, rfl, e1⟩ := (Vals.below HO.out.1 HBW.out).at (i := i) (v := .int .i64 ((orderOf l T C Q)[i] : Nat)) (by simp [nInts, hio])
      have hj := HO.out.2.2 _ (List.getElem_mem hio)
      have hset := atOf_set HO.out.2.1 asks.length hio
      have hpn := posOf_nodup HO.out.2.1 hio
      have hj2 : (orderOf l T C Q)[i] < asks.length := by rw [← HML.out.1]; exact hj
      have hat := HM.out.1.at (j := (orderOf l T C Q)[i]) (by rw [atOf_len]; exact hj2) 0
      rw [atOf_at _ _ _ hj2] at hat
      have hz : (if posOf (orderOf l T C Q) (orderOf l T C Q)[i] < i then (posOf (orderOf l T C Q) (orderOf l T C Q)[i] : Int) + 1 else 0) = 0 := if_neg (by
        show ¬ posOf (orderOf l T C Q) ((orderOf l T C Q)[i]) < i
        rw [hpn]; omega)
      rw [hz] at hat
      have hfz := HM.out.1.free (orderOf l T C Q)[i]
      have HN := Lib.hid (show RowI (wr.setCell ⟨gf, (orderOf l T C Q)[i], none⟩ (.int .i64 ((i : Int) + 1))) w.heap.size gf asks.length (atOf (orderOf l T C Q) asks.length (i + 1)) ∧ Below gf w4 (wr.setCell ⟨gf, (orderOf l T C Q)[i], none⟩ (.int .i64 ((i : Int) + 1))) by
        have := HM.out.1.set (orderOf l T C Q)[i] ((i : Int) + 1)
        rw [hset] at this
        exact ⟨this, HM.out.2.setCell (Nat.le_refl _) _⟩)
      obtain ⟨j, hje⟩ : ∃ j, (orderOf l T C Q)[i] = j := ⟨_, rfl⟩
      rw [hje] at e1 hat hfz HN hj2
      have p0 : decide ((j : Int) < 0) = false := decide_eq_false (by omega)
      have p1 : decide ((j : Int) ≥ (asks.length : Int)) = false := decide_eq_false (by omega)
      have k0 : (0 : Int) ≤ (j : Int) := by omega
      have k1 : (j : Int) < (asks.length : Int) := by omega
      have k2 : (i : Int) < (asks.length : Int) := by omega
      clear hio hj hset hpn hz HM HBW hje
      go_wp2
      go_roundw
      case rel => exact ⟨i + 1, by go_num, by omega, HN⟩
      case measure => simp [intOf]; omega
    · obtain ⟨w5, hw5⟩ : ∃ w5, w5 = wr := ⟨_, rfl⟩
      have hin : i = asks.length := by omega
      have HM2 : Hid (RowI wr w.heap.size gf asks.length (atOf (orderOf l T C Q) asks.length asks.length) ∧ Below w4.heap.size w4 wr) := Lib.hid ⟨by rw [hin] at HM; exact HM.out.1, HBW.out⟩
      have p9 : decide ((i : Int) < (asks.length : Int)) = false := decide_eq_false (by omega)
      clear HM HBW hin
      go_wp2
      subst hw5
      go_loopw [13] (fun ii wy => ∃ i n : Nat, ii = .int .i64 i ∧ i ≤ asks.length ∧ wy = w5.drewN n) (fun ii _ => asks.length - (intOf ii).toNat)
      case atStart => exact ⟨0, 0, rfl, by omega, rfl⟩
      case round =>
        obtain ⟨i, n, rfl, hi, rfl⟩ := hrel
        by_cases h : i < asks.length
        · have p0 : decide ((i : Int) < (asks.length : Int)) = true := decide_eq_true (by omega)
          go_wp2
          go_loopw [14] (fun kk wz => ∃ k m : Nat, kk = .int .i64 k ∧ k ≤ i ∧ wz = w5.drewN m) (fun kk _ => i - (intOf kk).toNat)
          case atStart => exact ⟨0, n, rfl, by omega, rfl⟩
          case round =>
            obtain ⟨k, m, rfl, hk, rfl⟩ := hrel
            by_cases h2 : k < i
            · have hb : Below w3.heap.size w3 w5 := Below.next HB4.out.2 HM2.out.2
              obtain ⟨z, rfl, r1⟩ := (HR.out.1.below hb).at (show k < T.length by rw [HML.out.1]; omega)
              obtain ⟨z', hz', r2⟩ := (HR.out.1.below hb).at (show i < T.length by rw [HML.out.1]; exact h)
              cases hz'
              have t1 : T.getD k default = T[k]'(by rw [HML.out.1]; omega) := by simp [show k < T.length by rw [HML.out.1]; omega]
              have t2 : T.getD i default = T[i]'(by rw [HML.out.1]; exact h) := by simp [show i < T.length by rw [HML.out.1]; exact h]
              have c1 := r1.c1
              have c2 := r2.c1
              rw [← t1] at c1
              rw [← t2] at c2
              have g1 := HM2.out.1.at (j := k) (by rw [atOf_len]; omega) 0
              have g2 := HM2.out.1.at (j := i) (by rw [atOf_len]; exact h) 0
              rw [atOf_at _ _ _ (by omega)] at g1
              rw [atOf_at _ _ _ h] at g2
              have hord := fun he => at_order HG.out (i := i) (k := k) (by rw [HML.out.1]; exact h) h2 he
              have p1 : decide ((k : Int) < (i : Int)) = true := decide_eq_true (by omega)
              have k0 : (0 : Int) ≤ (k : Int) := by omega
              have k1 : (k : Int) < (asks.length : Int) := by omega
              have i0 : (0 : Int) ≤ (i : Int) := by omega
              have i1 : (i : Int) < (asks.length : Int) := by omega
              by_cases he : T.getD k default = T.getD i default
              · obtain ⟨o1, o2⟩ := hord he
                rw [HON.out] at o2
                rw [if_pos (by omega)] at g1
                rw [if_pos o2] at g2
                have p2 : decide ((posOf (orderOf l T C Q) k : Int) + 1 > (posOf (orderOf l T C Q) i : Int) + 1) = false := decide_eq_false (by omega)
                rw [he] at c1
                obtain ⟨t, hte⟩ : ∃ t, T.getD i default = t := ⟨_, rfl⟩
                rw [hte] at c1 c2
                have q := eq_str (rfl : t = t)
                obtain ⟨a1, ha1⟩ : ∃ a1 : Int, (posOf (orderOf l T C Q) k : Int) + 1 = a1 := ⟨_, rfl⟩
                obtain ⟨a2, ha2⟩ : ∃ a2 : Int, (posOf (orderOf l T C Q) i : Int) + 1 = a2 := ⟨_, rfl⟩
                rw [ha1] at g1 p2
                rw [ha2] at g2 p2
                clear hord he t1 t2 r1 r2 hb o1 o2 hte ha1 ha2
                go_wp2
                go_quiet (fail)
                go_wp2
                go_roundw
                case rel => exact ⟨k + 1, m + nq, by go_num, by omega, rfl⟩
                case measure => simp [intOf]; omega
              · have q := ne_str he
                obtain ⟨t, hte⟩ : ∃ t, T.getD i default = t := ⟨_, rfl⟩
                obtain ⟨u, hue⟩ : ∃ u, T.getD k default = u := ⟨_, rfl⟩
                rw [hte] at c2 q
                rw [hue] at c1 q
                clear hord he t1 t2 r1 r2 hb hte hue g1 g2
                go_wp2
                go_quiet (fail)
                go_wp2
                go_roundw
                case rel => exact ⟨k + 1, m + nq, by go_num, by omega, rfl⟩
                case measure => simp [intOf]; omega
            · have p1 : decide ((k : Int) < (i : Int)) = false := decide_eq_false (by omega)
              go_wp2
              go_roundw
              case rel => exact ⟨i + 1, m, by go_num, by omega, rfl⟩
              case measure => simp [intOf]; omega
        · have p0 : decide ((i : Int) < (asks.length : Int)) = false := decide_eq_false (by omega)
          go_wp2
          go_ret
          exact ⟨rfl, below_drewN (Below.next HB4.out.1 HM2.out.2) _⟩
end Go.Proofs.Ytdfnpknekjgkiaa
