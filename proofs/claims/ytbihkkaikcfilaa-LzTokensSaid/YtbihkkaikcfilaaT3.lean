/- The law LzTokens. -/
import Derived.Test.YtbihkkaikcfilaaT2
import Derived.Laws.Rows
namespace Go.Proofs.Ytbihkkaikcfilaa
open Go.RowKit
set_option linter.unusedVariables false
set_option linter.unusedSimpArgs false

theorem own_ne {w : World} {base n B : Nat} {v : Value} {xs : List Value} {cs : Array Value} {fr : Nat × Nat} (h : w.ownsRow base 5 1 v n xs) (hB : w.heap[B]? = some (.cells cs 32 fr)) : some B ≠ v.ownBlock := by
  intro e
  rcases h.2 with ⟨h, _⟩ | ⟨g, cap, cur, h, _, h3, _⟩
  · rw [h] at e; simp [Value.ownBlock] at e
  · rw [h] at e
    simp [Value.ownBlock] at e
    subst e
    rw [h3] at hB
    simp at hB
theorem Toks.all {w : World} {a : Option Addr} {l : List Tk} (h : Toks w a l) : ∀ t ∈ l, AllB t.lit := by
  intro t ht
  obtain ⟨k, hk, rfl⟩ := List.getElem_of_mem ht
  obtain ⟨x, b, c, _, h⟩ := h.at hk
  exact h.all
structure WInv (w : World) (l : List Tk) (k : Nat) (out : Value) (wr : World) : Prop where
  own : wr.ownsRow w.heap.size 5 1 out (wantL [] (l.take k)).length ((wantL [] (l.take k)).map (Value.int .u8))
  all : AllB (wantL [] (l.take k))
  ok : okL [] (l.take k)
  room : (wantL [] (l.take k)).length ≤ 69632
  low : Below w.heap.size w wr
theorem okL_next {l : List Tk} {k : Nat} (h : k < l.length) (h1 : okL [] (l.take k)) (h2 : okT (wantL [] (l.take k)) l[k]) : okL [] (l.take (k + 1)) := by
  rw [List.take_succ_eq_append_getElem h]; exact okL_snoc _ _ _ h1 h2
theorem wantL_next {l : List Tk} {k : Nat} (h : k < l.length) : wantL [] (l.take (k + 1)) = stepT (wantL [] (l.take k)) l[k] := by
  rw [List.take_succ_eq_append_getElem h, want_snoc]

set_option maxRecDepth 100000 in
set_option maxHeartbeats 8000000 in
theorem tokens_law (a : Option Addr) (c : Nat) (l : List Tk) (w : World) (hx : Toks w a l) (hc : l.length ≤ c) :
    Calls Try.prog 4 #[.slice a l.length c] w fun e w' => e = .returned (.bool true) ∧ Below w.heap.size w w' := by
  by_cases hl : 200 < l.length
  · have d1 : decide ((l.length : Int) > 200) = true := decide_eq_true (by omega)
    clear hx
    go_enter Try.func4, Try.ntmps4
    go_wp2_with fail
    refine (lives_any _).mono ?_
    rintro e w1 ⟨rfl, hb1⟩
    go_wp2
    go_ret
    exact ⟨rfl, hb1⟩
  have d1 : decide ((l.length : Int) > 200) = false := decide_eq_false (by omega)
  have d1' : decide (200 < l.length) = false := decide_eq_false (by omega)
  go_enter Try.func4, Try.ntmps4
  go_wp2_with fail
  refine (lives_any _).mono ?_
  rintro e w1 ⟨rfl, hb1⟩
  have HS : Hid (WInv w l 0 (.slice (some ⟨w1.heap.size, 0, none⟩) 0 0) (w1.alloc (.cells #[] 5))) := ⟨ownsRow_mono (World.ownsRow_lit (base := w1.heap.size) (e := 5) (size := 1) w1 #[] 0 (Nat.le_refl _) (by unfold maxLen; omega) rfl) hb1.size, (fun x h => by cases h), trivial, Nat.zero_le _, below_alloc hb1 _⟩
  clear hb1
  go_wp2
  go_loopw [3, 4] (fun out i wr => ∃ k : Nat, i = .int .i64 k ∧ k ≤ l.length ∧ WInv w l k out wr) (fun _ i _ => l.length - (intOf i).toNat)
  case atStart => exact ⟨0, rfl, Nat.zero_le _, HS.out⟩
  case round =>
    obtain ⟨k, rfl, hk, hown, hall, hok, hroom, hlow⟩ := hrel
    clear HS
    by_cases h : k < l.length
    · obtain ⟨x, b, cb, rfl, ht⟩ := (hx.below hlow).at h
      have hf := wantL_next h
      have hnx := okL_next h hok
      obtain ⟨i5, hi5, hy0, hy1, hy2⟩ := info_parts info5
      obtain ⟨hc0, hc1, hc2, hi, hlec, hnil, hall2, hmost, hr1, hr2⟩ := ht
      generalize l[k] = t at *
      have hnil : b = none → cb = 0 := hnil
      obtain ⟨ao, co, rfl, hio⟩ := ints_own hown
      generalize wantL [] (l.take k) = o at *
      have HF := Lib.hid hf
      have HX := Lib.hid hnx
      have HR := Lib.hid (And.intro hr1 hr2)
      have HO := Lib.hid hown
      clear hf hnx hr1 hr2 hown hok hmost
      generalize hq : t.lit.length = n at *
      have HQ := Lib.hid hq
      clear hq
      by_cases b1 : 4096 < n
      · have q1 : decide ((n : Int) > 4096) = true := decide_eq_true (by omega)
        have q1' : decide (4096 < n) = true := decide_eq_true b1
        clear hi hio
        go_wp2
        go_ret
        exact ⟨rfl, below_alloc hlow _⟩
      have q1 : decide ((n : Int) > 4096) = false := decide_eq_false (by omega)
      have q1' : decide (4096 < n) = false := decide_eq_false b1
      by_cases b2 : 65536 < o.length
      · have q2 : decide ((o.length : Int) > 65536) = true := decide_eq_true (by omega)
        have q2' : decide (65536 < o.length) = true := decide_eq_true b2
        clear hi hio
        go_wp2
        go_ret
        exact ⟨rfl, below_alloc hlow _⟩
      have q2 : decide ((o.length : Int) > 65536) = false := decide_eq_false (by omega)
      have q2' : decide (65536 < o.length) = false := decide_eq_false b2
      obtain ⟨W1, hW⟩ : ∃ W1, W1 = wr.alloc (.cells #[.slice b n cb, .int .i64 t.cnt, .int .i64 t.dist] 32) := ⟨_, rfl⟩
      have e3 : W1.heap[wr.heap.size]? = some (.cells #[.slice b n cb, .int .i64 t.cnt, .int .i64 t.dist] 32) := by rw [hW]; show (wr.heap.push _)[wr.heap.size]? = _; exact Array.getElem?_push_size
      have hlow1 : Below w.heap.size w W1 := by rw [hW]; exact below_alloc hlow _
      have hio1 : Ints .u8 W1 ao o := by rw [hW]; exact hio.below (below_alloc (Below.refl _ _) _)
      have hi1 : Ints .u8 W1 b t.lit := by rw [hW]; exact hi.below (below_alloc (Below.refl _ _) _)
      have HO1 : Hid (W1.ownsRow w.heap.size 5 1 (.slice ao o.length co) o.length (o.map (Value.int .u8))) := by rw [hW]; exact Lib.hid (HO.out.alloc _)
      clear hio hi HO
      by_cases b3 : 0 < n
      · have q3 : decide ((n : Int) > 0) = true := decide_eq_true (by omega)
        have q3' : decide (0 < n) = true := decide_eq_true b3
        have ho2 : okT o t := ⟨by have := HQ.out; omega, by omega, fun h => by have := HQ.out; omega⟩
        have hs : stepT o t = o ++ t.lit := by rw [stepT, if_pos (by have := HQ.out; omega)]
        have HF := Lib.hid (HF.out.trans hs)
        have HX := Lib.hid (HX.out ho2)
        have HA := Lib.hid (show AllB (o ++ t.lit) from hall.append hall2)
        clear hs ho2
        have hv := hi1.vals
        have he0 : W1.cell? ⟨wr.heap.size, 0, none⟩ = some (.slice b n cb) := by rw [cell_of_row W1 _ 0 _ _ _ e3]; rfl
        rw [hW] at HO1 hv
        have HV := Lib.hid hv
        clear hv hi1 hio1 he0
        go_wp2_with (at_builtin; refine wpList_append_vals _ rfl _ _ 22 rfl w.heap.size 5 i5 (.int .u8 0) 1 Try.underlying22 hi5 hy0 hy1 hy2 rfl _ o.length (o.map (Value.int .u8)) rfl HO1.out b cb n (t.lit.map (Value.int .u8)) (by simp [HQ.out]) rfl HV.out (ints_oneCell _ _) hnil (by unfold maxLen; omega) (by omega) (by have := hlow.size; simp; omega) ?_)
        intro v3 w3 hown3 hgrow3
        have hlow3 : Below w.heap.size w w3 := below_app (below_alloc hlow _) hgrow3 HO1.out
        have HO3 : Hid (w3.ownsRow w.heap.size 5 1 v3 (o ++ t.lit).length ((o ++ t.lit).map (Value.int .u8))) := by
          have e : (o ++ t.lit).length = o.length + n := by rw [List.length_append, HQ.out]
          rw [e, List.map_append]; exact hown3
        clear hown3 hgrow3 HO1
        go_wp2
        go_roundw
        case rel => exact ⟨k + 1, by go_num, by omega, by rw [HF.out]; exact HO3.out, by rw [HF.out]; exact HA.out, HX.out, by rw [HF.out, List.length_append, HQ.out]; omega, hlow3⟩
        case measure => simp [intOf]; omega
      have q3 : decide ((n : Int) > 0) = false := decide_eq_false (by omega)
      have q3' : decide (0 < n) = false := decide_eq_false b3
      obtain ⟨⟨r1, r2⟩, r3, r4⟩ := HR.out
      clear hi1
      generalize hcn : t.cnt = tc at *
      generalize hdn : t.dist = td at *
      by_cases b4 : tc < 1
      · have q4 : decide (tc < 1) = true := decide_eq_true b4
        clear hio1
        go_wp2
        go_ret
        exact ⟨rfl, below_alloc hlow _⟩
      have q4 : decide (tc < 1) = false := decide_eq_false b4
      by_cases b5 : tc > 4096
      · have q5 : decide (tc > 4096) = true := decide_eq_true b5
        clear hio1
        go_wp2
        go_ret
        exact ⟨rfl, below_alloc hlow _⟩
      have q5 : decide (tc > 4096) = false := decide_eq_false b5
      by_cases b6 : td < 1
      · have q6 : decide (td < 1) = true := decide_eq_true b6
        clear hio1
        go_wp2
        go_ret
        exact ⟨rfl, below_alloc hlow _⟩
      have q6 : decide (td < 1) = false := decide_eq_false b6
      by_cases b7 : td > (o.length : Int)
      · have q7 : decide (td > (o.length : Int)) = true := decide_eq_true b7
        clear hio1
        go_wp2
        go_ret
        exact ⟨rfl, below_alloc hlow _⟩
      have q7 : decide (td > (o.length : Int)) = false := decide_eq_false b7
      obtain ⟨m, rfl⟩ := Int.eq_ofNat_of_zero_le (show 0 ≤ tc by omega)
      obtain ⟨d, rfl⟩ := Int.eq_ofNat_of_zero_le (show 0 ≤ td by omega)
      have q7' : decide (o.length < d) = false := decide_eq_false (by omega)
      have ho2 : okT o t := ⟨by have := HQ.out; omega, by omega, fun h => by omega⟩
      have hs : stepT o t = cpy o d m := by rw [stepT, if_neg (by have := HQ.out; omega), hcn, hdn, Int.toNat_natCast, Int.toNat_natCast]
      have HF := Lib.hid (HF.out.trans hs)
      have HX := Lib.hid (HX.out ho2)
      have hdo : d ≤ o.length := by omega
      have hdp : 1 ≤ d := by omega
      have hm1 : 1 ≤ m ∧ m ≤ 4096 := by omega
      clear hs ho2 HR hcn hdn r1 r2 r3 r4 hio1 b4 b5 b6 b7
      go_wp2
      rw [← hW]
      clear hW hc0 hc1 hc2
      generalize wr.heap.size = B at *
      go_loopw [3, 6] (fun out i wx => ∃ j : Nat, j ≤ m ∧ i = .int .i64 j ∧ wx.ownsRow w.heap.size 5 1 out (cpy o d j).length ((cpy o d j).map (Value.int .u8)) ∧ Below w.heap.size w wx ∧ wx.heap[B]? = some (.cells #[.slice b n cb, .int .i64 (m : Int), .int .i64 (d : Int)] 32)) (fun _ i _ => m - (intOf i).toNat)
      case atStart => exact ⟨0, Nat.zero_le _, rfl, HO1.out, hlow1, e3⟩
      case round =>
        obtain ⟨j, hj, rfl, hown2, hlow2, hB⟩ := hrel
        clear HO1 e3
        obtain ⟨a2, c2, rfl, hi2⟩ := ints_own hown2
        have hcl := cpy_length o d j
        have hcs : cpy o d (j + 1) = cpy o d j ++ [(cpy o d j).getD ((cpy o d j).length - d) 0] := rfl
        have hca := cpy_all o d j hall
        have e1 : wr.cell? ⟨B, 1, none⟩ = some (.int .i64 (m : Int)) := by rw [cell_of_row _ _ 1 _ _ _ hB]; rfl
        have e2 : wr.cell? ⟨B, 2, none⟩ = some (.int .i64 (d : Int)) := by rw [cell_of_row _ _ 2 _ _ _ hB]; rfl
        generalize hq : cpy o d j = q at *
        have HQ2 := Lib.hid hq
        have HC := Lib.hid hcl
        have HS2 := Lib.hid hcs
        have hqd : d ≤ q.length := by omega
        have hqn : q.length ≤ 80000 := by omega
        have HB := Lib.hid hB
        clear hcs hcl hq hB
        by_cases hlt2 : j < m
        · obtain ⟨ad, rfl, hcell⟩ := hi2.at (i := q.length - d) (by omega)
          have hyb := (show AllB q from hca).getD (q.length - d)
          generalize q.getD (q.length - d) 0 = y at *
          have f1 : (q.length : Int) - (d : Int) = ((q.length - d : Nat) : Int) := by omega
          have f2 : ((q.length - d : Nat) : Int) < (q.length : Int) := by omega
          have hlt2' : (j : Int) < (m : Int) := by omega
          have HI2 := Lib.hid hi2
          clear hi2
          go_wp2_with (at_builtin; refine wpList_append_own _ rfl _ _ 22 rfl w.heap.size 5 i5 (.int .u8 0) 1 1 Try.underlying22 hi5 hy0 hy1 hy2 rfl (by decide) _ q.length (q.map (Value.int .u8)) rfl (hown2.alloc _) ⟨wr.heap.size, 0, none⟩ 1 1 [.int .u8 y] rfl rfl (cell_one_new _ _ _) (by simp [Value.oneCell']) (by unfold maxLen; omega) (by omega) (by have := hlow2.size; simp; omega) ?_)
          intro v3 w3 hown3 hgrow3 _
          have hBlt : B < wr.heap.size := (Array.getElem?_eq_some_iff.1 HB.out).1
          have hB2 : (wr.alloc (.cells #[.int .u8 y] 5)).heap[B]? = some (.cells #[.slice b n cb, .int .i64 (m : Int), .int .i64 (d : Int)] 32) := by
            show (wr.heap.push _)[B]? = _
            rw [Array.getElem?_push_lt hBlt]
            have := HB.out
            rw [Array.getElem?_eq_getElem hBlt] at this
            exact this
          have hB3 : w3.heap[B]? = some (.cells #[.slice b n cb, .int .i64 (m : Int), .int .i64 (d : Int)] 32) := by
            rw [hgrow3.block B (by show B < (wr.heap.push _).size; rw [Array.size_push]; omega) (own_ne (hown2.alloc _) hB2)]; exact hB2
          have HB3 := Lib.hid hB3
          have hlow3 : Below w.heap.size w w3 := below_app (below_alloc hlow2 _) hgrow3 (hown2.alloc _)
          have HO3 := Lib.hid (own_snoc (m := (q ++ [y]).length) hown3 (by simp only [List.length_append, List.length_singleton] <;> omega))
          clear hown3 hgrow3 hown2 hB2 hB3 HB
          go_wp2
          go_roundw
          case rel => exact ⟨j + 1, by omega, by go_num, by rw [HS2.out]; exact HO3.out, hlow3, HB3.out⟩
          case measure => simp [intOf]; omega
        · obtain rfl : j = m := by omega
          go_wp2
          go_roundw
          case rel => exact ⟨k + 1, by go_num, by omega, by rw [HF.out, HQ2.out]; exact hown2, by rw [HF.out, HQ2.out]; exact hca, HX.out, by rw [HF.out, HQ2.out]; have := HC.out; omega, hlow2⟩
          case measure => simp [intOf]; omega
    · obtain rfl : k = l.length := by omega
      rw [List.take_length] at hown hall hok hroom
      have hfa := formL_all l hx.all
      have hfl := formL_len l [] hok
      have u1 := unp_form (formL l) ((wantL [] l).length : Int) hfa l 0 [] rfl hok (Int.le_refl _)
      have u2 : 0 < (wantL [] l).length → unp (formL l) ((wantL [] l).length - 1 : Int) 0 [] = ([], 6) := fun h => unp_long (formL l) _ hfa l 0 [] rfl hok (by simp; omega) (by omega)
      obtain ⟨ao, co, rfl, hio⟩ := ints_own hown
      have F : ∀ wx, Below wr.heap.size wr wx → Calls Try.prog 13 #[.slice a l.length c] wx fun e w' => ∃ r cr, e = .returned (.slice r (formL l).length cr) ∧ Ints .u8 w' r (formL l) ∧ (formL l).length ≤ cr ∧ Below wr.heap.size wr w' := fun wx hb => (form_any a c l wx (hx.below (Below.next hlow hb)) hc (by omega) hok).mono fun e w' ⟨r, h1, h2, h3⟩ => by
        have hcap := h2
        obtain ⟨ar, cr, rfl, hir⟩ := ints_own h2
        exact ⟨ar, cr, h1, hir, own_cap hcap, Below.next hb h3⟩
      have U : ∀ (m : Int) wx r cr, Below wr.heap.size wr wx → Ints .u8 wx r (formL l) → (formL l).length ≤ cr → m ≤ 1000000 → -9223372036854775808 ≤ m → Calls Try.prog 9 #[.slice r (formL l).length cr, .int .i64 m] wx fun e w' => ∃ ao co, e = .returned (.tuple #[.slice ao (unp (formL l) m 0 []).1.length co, .int .i64 (unp (formL l) m 0 []).2]) ∧ Ints .u8 w' ao (unp (formL l) m 0 []).1 ∧ Below wr.heap.size wr w' := fun m wx r cr hb hi h1 h2 h3 => (unpack_any m r cr _ wx hi hfa h1 (by omega) h2 h3).mono fun e w' ⟨v, h1, h2, h3⟩ => by
        obtain ⟨ao, co, rfl, hio⟩ := ints_own h2
        exact ⟨ao, co, h1, hio, Below.next hb h3⟩
      have U1 := U ((wantL [] l).length : Int)
      have U2 := U ((wantL [] l).length - 1 : Int)
      rw [u1] at U1
      have HF := Lib.hid F
      have HI := Lib.hid hio
      have HL := Lib.hid hlow
      clear U F u1 hx hown hio hlow hok hfa
      generalize formL l = fl at *
      by_cases h0 : 0 < (wantL [] l).length
      · rw [u2 h0] at U2
        have H1 := Lib.hid U1
        have H2 := Lib.hid U2
        clear u2 U1 U2
        generalize wantL [] l = o at *
        have q0 : ((o.length : Int) == 0) = false := beq_eq_false_iff_ne.2 (by omega)
        have hw1 : IntKind.i64.wrap ((o.length : Int) - 1) = (o.length : Int) - 1 := IntWalk.i64_in _ (by omega)
        go_wp2_with fail
        refine (HF.out _ (Below.refl _ _)).mono ?_
        rintro e w2 ⟨r, cr, rfl, hir, hcr, hb2⟩
        have H1 := Lib.hid (H1.out w2 r cr hb2 hir hcr (by omega) (by omega))
        clear hir
        go_wp2_with fail
        refine H1.out.mono ?_
        rintro e w3 ⟨a3, c3, rfl, hi3, hb3⟩
        have hcv := conv_ints a3 c3 _ o w3 hi3 rfl
        have hcv2 := conv_ints ao co _ o w3 (HI.out.below hb3) rfl
        have HB3 := Lib.hid hb3
        clear hb2 hb3 hi3 H1
        generalize strOfNums o = so at *
        go_wp2_with fail
        refine (HF.out _ HB3.out).mono ?_
        rintro e w4 ⟨r, cr, rfl, hir, hcr, hb4⟩
        have H2 := Lib.hid (H2.out w4 r cr hb4 hir hcr (by omega) (by omega))
        clear hir hcv hcv2
        go_wp2_with fail
        refine H2.out.mono ?_
        rintro e w5 ⟨a5, c5, rfl, hi5, hb5⟩
        have HB5 := Lib.hid (Below.next HL.out hb5)
        clear hb4 hb5 hi5 H2
        go_wp2
        go_ret
        exact ⟨rfl, HB5.out⟩
      · have H1 := Lib.hid U1
        have H2 := Lib.hid U2
        clear u2 U1 U2
        generalize wantL [] l = o at *
        obtain rfl : o = [] := List.eq_nil_of_length_eq_zero (by omega)
        go_wp2_with fail
        refine (HF.out _ (Below.refl _ _)).mono ?_
        rintro e w2 ⟨r, cr, rfl, hir, hcr, hb2⟩
        have H1 := Lib.hid (H1.out w2 r cr hb2 hir hcr (by simp) (by simp))
        clear hir
        go_wp2_with fail
        refine H1.out.mono ?_
        rintro e w3 ⟨a3, c3, rfl, hi3, hb3⟩
        have hcv := conv_ints a3 c3 0 [] w3 hi3 rfl
        have hcv2 := conv_ints ao co 0 [] w3 (HI.out.below hb3) rfl
        have HB3 := Lib.hid hb3
        clear hb2 hb3 hi3 H1
        generalize strOfNums [] = so at *
        go_wp2_with fail
        refine (HF.out _ HB3.out).mono ?_
        rintro e w4 ⟨r, cr, rfl, hir, hcr, hb4⟩
        have H2 := Lib.hid (H2.out w4 r cr hb4 hir hcr (by simp) (by simp))
        clear hir hcv hcv2
        go_wp2_with fail
        refine H2.out.mono ?_
        rintro e w5 ⟨a5, c5, rfl, hi5, hb5⟩
        have HB5 := Lib.hid (Below.next HL.out hb5)
        clear hb4 hb5 hi5 H2
        go_wp2
        go_ret
        exact ⟨rfl, HB5.out⟩
end Go.Proofs.Ytbihkkaikcfilaa
