/- The contract of the reference's Unpack: it returns what the plain function says of the bytes and the limit. -/
import Derived.Test.YtbihkkaikcfilaaL5
namespace Go.Proofs.Ytbihkkaikcfilaa
open Go.RowKit
set_option linter.unusedVariables false
set_option linter.unusedSimpArgs false

structure VInv (w : World) (xs : List Int) (most : Int) (p : Nat) (o : List Int) (out : Value) (wr : World) : Prop where
  le : p ≤ xs.length
  own : wr.ownsRow w.heap.size 5 1 out o.length (o.map (Value.int .u8))
  all : AllB o
  low : Below w.heap.size w wr
  eq : unp xs most 0 [] = unp xs most p o
  room : o.length = 0 ∨ (o.length : Int) ≤ most
theorem runpack_start (w : World) (xs : List Int) (most : Int) : VInv w xs most 0 [] (.slice (some ⟨w.heap.size, 0, none⟩) 0 0) (w.alloc (.cells #[] 5)) where
  le := Nat.zero_le _
  own := World.ownsRow_lit (base := w.heap.size) (e := 5) (size := 1) w #[] 0 (Nat.le_refl _) (by unfold maxLen; omega) rfl
  all := fun x h => by cases h
  low := (Below.refl _ _).alloc (Nat.le_refl _) _
  eq := rfl
  room := .inl rfl

set_option maxRecDepth 100000 in
set_option maxHeartbeats 8000000 in
theorem runpack_pos (most : Int) (a : Option Addr) (c : Nat) (xs : List Int) (w : World) (hx : Ints .u8 w a xs) (hb : AllB xs) (hc : xs.length ≤ c) (hl : xs.length ≤ 1000000) (hm1 : most ≤ 1000000) (hm2 : -9223372036854775808 ≤ most) (hR : 0 ≤ most) :
    Calls Try.prog 10 #[.slice a xs.length c, .int .i64 most] w fun e w' => ∃ v, e = .returned (.tuple #[v, .int .i64 (unp xs most 0 []).2]) ∧ w'.ownsRow w.heap.size 5 1 v (unp xs most 0 []).1.length ((unp xs most 0 []).1.map (Value.int .u8)) ∧ Below w.heap.size w w' := by
  have HS := Lib.hid (runpack_start w xs most)
  go_enter Try.func10, Try.ntmps10
  go_wp2
  go_loopw [6, 8] (fun out i wr => ∃ (p : Nat) (o : List Int), i = .int .i64 p ∧ VInv w xs most p o out wr) (fun _ i _ => xs.length - (intOf i).toNat)
  case atStart => exact ⟨0, [], rfl, HS.out⟩
  case round =>
    obtain ⟨p, o, rfl, inv⟩ := hrel
    obtain ⟨hle, hown, hao, hlow, heq, hroom⟩ := inv
    obtain ⟨ao, co, rfl, hio⟩ := ints_own hown
    have HO := Lib.hid hown
    have HQ := Lib.hid heq
    clear hown heq
    by_cases hlt : p < xs.length
    · have d1 : decide ((p : Int) < (xs.length : Int)) = true := decide_eq_true (by omega)
      have d1' : decide (p < xs.length) = true := decide_eq_true hlt
      have hol : (o.length : Int) ≤ 1000000 := by omega
      have hor : (o.length : Int) ≤ most := by omega
      have hmax : max (most - (o.length : Int)) 0 = most - (o.length : Int) := by omega
      have hrw : IntKind.u64.wrap (most - (o.length : Int)) = most - (o.length : Int) := IntWalk.u64_in _ (by omega)
      have UF := fun q (hq : q ≤ xs.length) => ruint_any q a c xs wr hq (hx.below hlow) hb hc (by omega)
      have hok : ∀ q : Nat, (uintOf xs q).2.2 = 0 → 0 ≤ (uintOf xs q).1 ∧ (uintOf xs q).1 < 18446744073709551616 ∧ (q : Int) < (uintOf xs q).2.1 ∧ (uintOf xs q).2.1 ≤ xs.length := fun q h => by
        have := ug_ok xs q hb 10 0 0 (by omega) (by omega) (by simp) h; simpa [uintOf] using this
      have hul := unp_lit xs most p o hb hlt
      have huc := unp_cpy xs most p o hb hlt
      have hT : tokOf xs p o.length most = tokOf xs p o.length most := rfl
      conv at hT => rhs; unfold tokOf
      rw [hmax] at hT
      change _ = _ at hT
      have hok1 := hok p
      have U1 := UF p (by omega)
      generalize uintOf xs p = u at *
      obtain ⟨x, nx, er⟩ := u
      simp only at hT hok1 U1
      unfold u3 at U1
      replace U1 := Lib.hid U1
      clear hmax
      by_cases he : er = 0
      · subst he
        simp only [ne_eq, not_true_eq_false, if_false, if_true] at hT
        obtain ⟨hx0, hx1, hn0, hn1⟩ := hok1 rfl
        obtain ⟨nx, rfl⟩ := Int.eq_ofNat_of_zero_le (show 0 ≤ nx by omega)
        rw [Int.toNat_natCast] at hT
        by_cases h2 : x / 2 = 0
        · rw [if_pos h2] at hT
          have t2 : (x / 2 == 0) = true := beq_iff_eq.2 h2
          have hfin := HQ.out.trans ((unp_err xs most p o hlt (by rw [hT]; simp)).trans (by rw [hT]))
          have HF := Lib.hid hfin
          clear hfin hT HQ h2 hok1 hok UF hul huc
          go_wp2_with fail
          refine U1.out.mono ?_
          rintro e w1 ⟨rfl, rfl⟩
          go_wp2
          go_ret2
          exact ⟨_, by rw [HF.out]; rfl, by rw [HF.out]; exact World.ownsRow_nil _ _ _ _, hlow⟩
        rw [if_neg h2] at hT
        have t2 : (x / 2 == 0) = false := beq_eq_false_iff_ne.2 h2
        by_cases h3 : x % 2 = 0
        · rw [if_pos h3] at hT
          have t3 : (x % 2 == 0) = true := beq_iff_eq.2 h3
          by_cases h4 : most - (o.length : Int) < x / 2
          · rw [if_pos h4] at hT
            have t4 : decide (x / 2 > most - (o.length : Int)) = true := decide_eq_true h4
            have hfin := HQ.out.trans ((unp_err xs most p o hlt (by rw [hT]; simp)).trans (by rw [hT]))
            have HF := Lib.hid hfin
            clear hfin hT HQ h2 h3 h4 hok1 hok UF hul huc
            go_wp2_with fail
            refine U1.out.mono ?_
            rintro e w1 ⟨rfl, rfl⟩
            go_wp2
            go_ret2
            exact ⟨_, by rw [HF.out]; rfl, by rw [HF.out]; exact World.ownsRow_nil _ _ _ _, hlow⟩
          rw [if_neg h4] at hT
          have t4 : decide (x / 2 > most - (o.length : Int)) = false := decide_eq_false h4
          have hw : IntKind.i64.wrap ((xs.length : Int) - (nx : Int)) = (xs.length : Int) - nx := IntWalk.i64_in _ (by omega)
          have hw2 : IntKind.u64.wrap ((xs.length : Int) - (nx : Int)) = (xs.length : Int) - nx := IntWalk.u64_in _ (by omega)
          by_cases h5 : (xs.length : Int) - nx < x / 2
          · rw [if_pos h5] at hT
            have t5 : decide (x / 2 > (xs.length : Int) - nx) = true := decide_eq_true h5
            have hfin := HQ.out.trans ((unp_err xs most p o hlt (by rw [hT]; simp)).trans (by rw [hT]))
            have HF := Lib.hid hfin
            clear hfin hT HQ h2 h3 h4 h5 hok1 hok UF hul huc
            go_wp2_with fail
            refine U1.out.mono ?_
            rintro e w1 ⟨rfl, rfl⟩
            go_wp2
            go_ret2
            exact ⟨_, by rw [HF.out]; rfl, by rw [HF.out]; exact World.ownsRow_nil _ _ _ _, hlow⟩
          · rw [if_neg h5] at hT
            have t5 : decide (x / 2 > (xs.length : Int) - nx) = false := decide_eq_false h5
            rw [hT] at hul
            obtain ⟨n, hn⟩ := Int.eq_ofNat_of_zero_le (show 0 ≤ x / 2 by omega)
            simp only at hul
            rw [hn] at hul
            have hfin := HQ.out.trans (hul trivial trivial)
            rw [show ((nx : Int) + (n : Int)).toNat = nx + n from by omega, Int.toNat_natCast, Int.toNat_natCast] at hfin
            obtain ⟨i5, hi5, hy0, hy1, hy2⟩ := info_parts info5
            have hnl : nx + n ≤ xs.length := by omega
            have hnn : 1 ≤ n := by omega
            have hI := ((hx.below hlow).drop nx c hc).take n
            have hcut := fun W => mid_run (P := Try.prog) 22 5 Try.underlying22 hi5 .i64 .i64 a xs.length c nx (nx + n) (by omega) (by omega) W
            rw [hy1, show ((nx + n : Nat) : Int) = (nx : Int) + x / 2 from by omega, show nx + n - nx = n from by omega] at hcut
            have hln : ((xs.drop nx).take n).length = n := by rw [List.length_take, List.length_drop]; omega
            have hab := (hb.drop nx).take n
            generalize (if c = nx then a else a.map (·.add (nx * 1))) = a2 at *
            generalize (xs.drop nx).take n = lit at *
            have hro : o.length + n ≤ 1000000 ∧ (((o.length + n : Nat) : Int) ≤ most) := by omega
            have HF := Lib.hid hfin
            have HL := Lib.hid hln
            obtain ⟨ad, rfl, _⟩ := hI.at (i := 0) (by rw [HL.out]; omega)
            have hnews := vals_some hI.vals
            have NW := Lib.hid hnews
            clear hfin hul huc hok hok1 HQ hI hln hnews hT UF h2 h3 h4 h5 hw hw2
            have HN := Lib.hid hn
            have h5a : x / 2 ≤ (xs.length : Int) - nx := by omega
            have h5b : 0 ≤ x / 2 := by omega
            clear hn
            go_wp2_with fail
            refine U1.out.mono ?_
            rintro e w1 ⟨rfl, rfl⟩
            go_wp2_with (at_builtin; refine wpList_append_own _ rfl _ _ 22 rfl w.heap.size 5 i5 (.int .u8 0) 1 1 Try.underlying22 hi5 hy0 hy1 hy2 rfl (by decide) _ o.length (o.map (Value.int .u8)) rfl HO.out ad n (c - nx) (lit.map (Value.int .u8)) rfl (by simp [HL.out]) NW.out (ints_oneCell _ _) (by unfold maxLen; omega) (by omega) hlow.size ?_)
            intro v3 w3 hown3 hgrow3 _
            have hlow3 := below_app hlow hgrow3 HO.out
            have HO3 : Hid (w3.ownsRow w.heap.size 5 1 v3 (o ++ lit).length ((o ++ lit).map (Value.int .u8))) := by
              have e : (o ++ lit).length = o.length + n := by rw [List.length_append, HL.out]
              rw [e, List.map_append]; exact hown3
            clear hown3 hgrow3 HO
            have HA := Lib.hid (And.intro hn0 (And.intro hn1 hroom))
            have HR := Lib.hid (And.intro hro HN.out)
            clear t2 t3 t4 t5 hn0 hn1 hroom hrw hor hol hro hcut NW U1 HN
            go_wp2
            have hn0 := HA.out.1
            have hro := HR.out.1
            have hxn := HR.out.2
            go_roundw
            case rel => exact ⟨nx + n, o ++ lit, by go_num, by omega, HO3.out, hao.append hab, hlow3, HF.out, .inr (by rw [List.length_append, HL.out]; omega)⟩
            case measure => simp [intOf]; omega
        rw [if_neg h3] at hT
        have t3 : (x % 2 == 0) = false := beq_eq_false_iff_ne.2 h3
        have hok2 := hok nx
        have U2 := UF nx (by omega)
        generalize uintOf xs nx = v at *
        obtain ⟨d, nx2, er2⟩ := v
        simp only at hT hok2 U2
        unfold u3 at U2
        replace U2 := Lib.hid U2
        clear UF hok hok1
        by_cases he2 : er2 = 0
        · subst he2
          simp only [ne_eq, not_true_eq_false, if_false, if_true] at hT
          obtain ⟨hd0, hd1, hn2, hn3⟩ := hok2 rfl
          obtain ⟨nx2, rfl⟩ := Int.eq_ofNat_of_zero_le (show 0 ≤ nx2 by omega)
          clear hok2
          by_cases h6 : d = 0
          · rw [if_pos (.inl h6)] at hT
            have t6 : (d == 0) = true := beq_iff_eq.2 h6
            have hfin := HQ.out.trans ((unp_err xs most p o hlt (by rw [hT]; simp)).trans (by rw [hT]))
            have HF := Lib.hid hfin
            clear hfin hT HQ h2 h3 h6 hul huc
            go_wp2_with fail
            refine U1.out.mono ?_
            rintro e w1 ⟨rfl, rfl⟩
            go_wp2_with fail
            refine U2.out.mono ?_
            rintro e w1 ⟨rfl, rfl⟩
            go_wp2
            go_ret2
            exact ⟨_, by rw [HF.out]; rfl, by rw [HF.out]; exact World.ownsRow_nil _ _ _ _, hlow⟩
          have t6 : (d == 0) = false := beq_eq_false_iff_ne.2 h6
          by_cases h7 : (o.length : Int) < d
          · rw [if_pos (.inr h7)] at hT
            have t7 : decide (d > (o.length : Int)) = true := decide_eq_true h7
            have hfin := HQ.out.trans ((unp_err xs most p o hlt (by rw [hT]; simp)).trans (by rw [hT]))
            have HF := Lib.hid hfin
            clear hfin hT HQ h2 h3 h6 h7 hul huc
            go_wp2_with fail
            refine U1.out.mono ?_
            rintro e w1 ⟨rfl, rfl⟩
            go_wp2_with fail
            refine U2.out.mono ?_
            rintro e w1 ⟨rfl, rfl⟩
            go_wp2
            go_ret2
            exact ⟨_, by rw [HF.out]; rfl, by rw [HF.out]; exact World.ownsRow_nil _ _ _ _, hlow⟩
          rw [if_neg (by omega)] at hT
          have t7 : decide (d > (o.length : Int)) = false := decide_eq_false h7
          by_cases h4 : most - (o.length : Int) < x / 2
          · rw [if_pos h4] at hT
            have t4 : decide (x / 2 > most - (o.length : Int)) = true := decide_eq_true h4
            have hfin := HQ.out.trans ((unp_err xs most p o hlt (by rw [hT]; simp)).trans (by rw [hT]))
            have HF := Lib.hid hfin
            clear hfin hT HQ h2 h3 h4 h6 h7 hul huc
            go_wp2_with fail
            refine U1.out.mono ?_
            rintro e w1 ⟨rfl, rfl⟩
            go_wp2_with fail
            refine U2.out.mono ?_
            rintro e w1 ⟨rfl, rfl⟩
            go_wp2
            go_ret2
            exact ⟨_, by rw [HF.out]; rfl, by rw [HF.out]; exact World.ownsRow_nil _ _ _ _, hlow⟩
          · rw [if_neg h4] at hT
            have t4 : decide (x / 2 > most - (o.length : Int)) = false := decide_eq_false h4
            rw [hT] at huc
            obtain ⟨n, hn⟩ := Int.eq_ofNat_of_zero_le (show 0 ≤ x / 2 by omega)
            obtain ⟨d, rfl⟩ := Int.eq_ofNat_of_zero_le (show 0 ≤ d by omega)
            simp only at huc
            rw [hn] at huc
            have hfin := HQ.out.trans (huc trivial h6)
            rw [Int.toNat_natCast, Int.toNat_natCast, Int.toNat_natCast] at hfin
            obtain ⟨i5, hi5, hy0, hy1, hy2⟩ := info_parts info5
            have hdo : d ≤ o.length := by omega
            have hdp : 1 ≤ d := by omega
            have t7' : decide (o.length < d) = false := decide_eq_false (by omega)
            have hro : o.length + n ≤ 1000000 ∧ (((o.length + n : Nat) : Int) ≤ most) := by omega
            have HF := Lib.hid hfin
            have HN := Lib.hid hn
            have HA := Lib.hid (And.intro hn0 (And.intro hn1 hroom))
            have HR := Lib.hid (And.intro hn2 (And.intro hn3 hro))
            clear hfin hul huc HQ hT h2 h3 h4 h6 h7 hn hroom hro hd0 hd1
            go_wp2_with fail
            refine U1.out.mono ?_
            rintro e w1 ⟨rfl, rfl⟩
            go_wp2_with fail
            refine U2.out.mono ?_
            rintro e w1 ⟨rfl, rfl⟩
            clear U1 U2 hx1
            go_wp2
            have hn0 := HA.out.1
            have hroom := HA.out.2.2
            have hn2 := HR.out.1
            have hro := HR.out.2.2
            go_loopw [6, 15] (fun out i wx => ∃ j : Nat, j ≤ n ∧ i = .int .u64 j ∧ wx.ownsRow w.heap.size 5 1 out (cpy o d j).length ((cpy o d j).map (Value.int .u8)) ∧ Below w.heap.size w wx) (fun _ i _ => n - (intOf i).toNat)
            case atStart => exact ⟨0, Nat.zero_le _, rfl, HO.out, hlow⟩
            case round =>
              obtain ⟨j, hj, rfl, hown2, hlow2⟩ := hrel
              obtain ⟨a2, c2, rfl, hi2⟩ := ints_own hown2
              have hcl := cpy_length o d j
              have hcs : cpy o d (j + 1) = cpy o d j ++ [(cpy o d j).getD ((cpy o d j).length - d) 0] := rfl
              have hca := cpy_all o d j hao
              generalize hq : cpy o d j = q at *
              have HQ2 := Lib.hid hq
              have HC := Lib.hid hcl
              have HS2 := Lib.hid hcs
              have hqd : d ≤ q.length := by omega
              have hqn : q.length ≤ 2000000 := by omega
              clear hcs hcl hq
              by_cases hlt2 : j < n
              · obtain ⟨ad, rfl, hcell⟩ := hi2.at (i := q.length - d) (by omega)
                have hyb := (show AllB q from hca).getD (q.length - d)
                generalize q.getD (q.length - d) 0 = y at *
                have e1 : (q.length : Int) - (d : Int) = ((q.length - d : Nat) : Int) := by omega
                have b1 : ((q.length - d : Nat) : Int) < (q.length : Int) := by omega
                have hlt2' : (j : Int) < x / 2 := by have := HN.out; omega
                have HI2 := Lib.hid hi2
                clear hi2
                go_wp2_with (at_builtin; refine wpList_append_own _ rfl _ _ 22 rfl w.heap.size 5 i5 (.int .u8 0) 1 1 Try.underlying22 hi5 hy0 hy1 hy2 rfl (by decide) _ q.length (q.map (Value.int .u8)) rfl (hown2.alloc _) ⟨wr.heap.size, 0, none⟩ 1 1 [.int .u8 y] rfl rfl (cell_one_new _ _ _) (by simp [Value.oneCell']) (by unfold maxLen; omega) (by omega) (by have := hlow2.size; simp; omega) ?_)
                intro v3 w3 hown3 hgrow3 _
                have hlow3 : Below w.heap.size w w3 := below_app (below_alloc hlow2 _) hgrow3 (hown2.alloc _)
                have HO3 := Lib.hid (own_snoc (m := (q ++ [y]).length) hown3 (by simp))
                clear hown3 hgrow3 hown2
                go_wp2
                go_roundw
                case rel => exact ⟨j + 1, by omega, by go_num, by rw [HS2.out]; exact HO3.out, hlow3⟩
                case measure => simp [intOf]; omega
              · obtain rfl : j = n := by omega
                have hlt2' : ¬ ((j : Int) < x / 2) := by have := HN.out; omega
                go_wp2
                go_roundw
                case rel => exact ⟨nx2, q, rfl, by omega, hown2, hca, hlow2, by rw [← HQ2.out]; exact HF.out, .inr (by have := HC.out; omega)⟩
                case measure => simp [intOf]; omega
        · rw [if_pos he2] at hT
          have q1 : (er2 != 0) = true := by rw [bne_iff_ne]; exact he2
          have hfin := HQ.out.trans ((unp_err xs most p o hlt (by rw [hT]; exact he2)).trans (by rw [hT]))
          have HF := Lib.hid hfin
          clear hfin hT HQ h2 h3 hok2 hul huc
          go_wp2_with fail
          refine U1.out.mono ?_
          rintro e w1 ⟨rfl, rfl⟩
          go_wp2_with fail
          refine U2.out.mono ?_
          rintro e w1 ⟨rfl, rfl⟩
          go_wp2
          go_ret2
          exact ⟨_, by rw [HF.out]; rfl, by rw [HF.out]; exact World.ownsRow_nil _ _ _ _, hlow⟩
      · rw [if_pos he] at hT
        have q0 : (er != 0) = true := by rw [bne_iff_ne]; exact he
        have hfin := HQ.out.trans ((unp_err xs most p o hlt (by rw [hT]; exact he)).trans (by rw [hT]))
        have HF := Lib.hid hfin
        clear hfin hT HQ hok1 hok UF hul huc
        go_wp2_with fail
        refine U1.out.mono ?_
        rintro e w1 ⟨rfl, rfl⟩
        go_wp2
        go_ret2
        exact ⟨_, by rw [HF.out]; rfl, by rw [HF.out]; exact World.ownsRow_nil _ _ _ _, hlow⟩
    · have d1 : decide ((p : Int) < (xs.length : Int)) = false := decide_eq_false (by omega)
      have d1' : decide (p < xs.length) = false := decide_eq_false hlt
      have hfin := HQ.out.trans (unp_end xs most p o (by omega))
      have HF := Lib.hid hfin
      clear hfin
      go_wp2
      go_ret2
      exact ⟨_, by rw [HF.out]; rfl, by rw [HF.out]; exact HO.out, hlow⟩

set_option maxRecDepth 100000 in
set_option maxHeartbeats 8000000 in
theorem runpack_neg (most : Int) (a : Option Addr) (c : Nat) (xs : List Int) (w : World) (hx : Ints .u8 w a xs) (hb : AllB xs) (hc : xs.length ≤ c) (hl : xs.length ≤ 1000000) (hm1 : most ≤ 1000000) (hm2 : -9223372036854775808 ≤ most) (hR : most < 0) :
    Calls Try.prog 10 #[.slice a xs.length c, .int .i64 most] w fun e w' => ∃ v, e = .returned (.tuple #[v, .int .i64 (unp xs most 0 []).2]) ∧ w'.ownsRow w.heap.size 5 1 v (unp xs most 0 []).1.length ((unp xs most 0 []).1.map (Value.int .u8)) ∧ Below w.heap.size w w' := by
  have HS := Lib.hid (runpack_start w xs most)
  go_enter Try.func10, Try.ntmps10
  go_wp2
  go_loopw [6, 8] (fun out i wr => ∃ (p : Nat) (o : List Int), i = .int .i64 p ∧ VInv w xs most p o out wr) (fun _ i _ => xs.length - (intOf i).toNat)
  case atStart => exact ⟨0, [], rfl, HS.out⟩
  case round =>
    obtain ⟨p, o, rfl, inv⟩ := hrel
    obtain ⟨hle, hown, hao, hlow, heq, hroom⟩ := inv
    obtain ⟨ao, co, rfl, hio⟩ := ints_own hown
    have HO := Lib.hid hown
    have HQ := Lib.hid heq
    clear hown heq
    by_cases hlt : p < xs.length
    · have d1 : decide ((p : Int) < (xs.length : Int)) = true := decide_eq_true (by omega)
      have d1' : decide (p < xs.length) = true := decide_eq_true hlt
      have hol : (o.length : Int) ≤ 1000000 := by omega
      have hor : (o.length : Int) ≤ 0 := by omega
      have hmax : max (most - (o.length : Int)) 0 = -(o.length : Int) := by omega
      have hrw : IntKind.u64.wrap (-(o.length : Int)) = -(o.length : Int) := IntWalk.u64_in _ (by omega)
      have UF := fun q (hq : q ≤ xs.length) => ruint_any q a c xs wr hq (hx.below hlow) hb hc (by omega)
      have hok : ∀ q : Nat, (uintOf xs q).2.2 = 0 → 0 ≤ (uintOf xs q).1 ∧ (uintOf xs q).1 < 18446744073709551616 ∧ (q : Int) < (uintOf xs q).2.1 ∧ (uintOf xs q).2.1 ≤ xs.length := fun q h => by
        have := ug_ok xs q hb 10 0 0 (by omega) (by omega) (by simp) h; simpa [uintOf] using this
      have hul := unp_lit xs most p o hb hlt
      have huc := unp_cpy xs most p o hb hlt
      have hT : tokOf xs p o.length most = tokOf xs p o.length most := rfl
      conv at hT => rhs; unfold tokOf
      rw [hmax] at hT
      change _ = _ at hT
      have hok1 := hok p
      have U1 := UF p (by omega)
      generalize uintOf xs p = u at *
      obtain ⟨x, nx, er⟩ := u
      simp only at hT hok1 U1
      unfold u3 at U1
      replace U1 := Lib.hid U1
      clear hmax
      by_cases he : er = 0
      · subst he
        simp only [ne_eq, not_true_eq_false, if_false, if_true] at hT
        obtain ⟨hx0, hx1, hn0, hn1⟩ := hok1 rfl
        obtain ⟨nx, rfl⟩ := Int.eq_ofNat_of_zero_le (show 0 ≤ nx by omega)
        rw [Int.toNat_natCast] at hT
        by_cases h2 : x / 2 = 0
        · rw [if_pos h2] at hT
          have t2 : (x / 2 == 0) = true := beq_iff_eq.2 h2
          have hfin := HQ.out.trans ((unp_err xs most p o hlt (by rw [hT]; simp)).trans (by rw [hT]))
          have HF := Lib.hid hfin
          clear hfin hT HQ h2 hok1 hok UF hul huc
          go_wp2_with fail
          refine U1.out.mono ?_
          rintro e w1 ⟨rfl, rfl⟩
          go_wp2
          go_ret2
          exact ⟨_, by rw [HF.out]; rfl, by rw [HF.out]; exact World.ownsRow_nil _ _ _ _, hlow⟩
        rw [if_neg h2] at hT
        have t2 : (x / 2 == 0) = false := beq_eq_false_iff_ne.2 h2
        by_cases h3 : x % 2 = 0
        · rw [if_pos h3] at hT
          have t3 : (x % 2 == 0) = true := beq_iff_eq.2 h3
          by_cases h4 : -(o.length : Int) < x / 2
          · rw [if_pos h4] at hT
            have t4 : decide (x / 2 > -(o.length : Int)) = true := decide_eq_true h4
            have hfin := HQ.out.trans ((unp_err xs most p o hlt (by rw [hT]; simp)).trans (by rw [hT]))
            have HF := Lib.hid hfin
            clear hfin hT HQ h2 h3 h4 hok1 hok UF hul huc
            go_wp2_with fail
            refine U1.out.mono ?_
            rintro e w1 ⟨rfl, rfl⟩
            go_wp2
            go_ret2
            exact ⟨_, by rw [HF.out]; rfl, by rw [HF.out]; exact World.ownsRow_nil _ _ _ _, hlow⟩
          exact absurd h4 (by omega)
        rw [if_neg h3] at hT
        have t3 : (x % 2 == 0) = false := beq_eq_false_iff_ne.2 h3
        have hok2 := hok nx
        have U2 := UF nx (by omega)
        generalize uintOf xs nx = v at *
        obtain ⟨d, nx2, er2⟩ := v
        simp only at hT hok2 U2
        unfold u3 at U2
        replace U2 := Lib.hid U2
        clear UF hok hok1
        by_cases he2 : er2 = 0
        · subst he2
          simp only [ne_eq, not_true_eq_false, if_false, if_true] at hT
          obtain ⟨hd0, hd1, hn2, hn3⟩ := hok2 rfl
          obtain ⟨nx2, rfl⟩ := Int.eq_ofNat_of_zero_le (show 0 ≤ nx2 by omega)
          clear hok2
          by_cases h6 : d = 0
          · rw [if_pos (.inl h6)] at hT
            have t6 : (d == 0) = true := beq_iff_eq.2 h6
            have hfin := HQ.out.trans ((unp_err xs most p o hlt (by rw [hT]; simp)).trans (by rw [hT]))
            have HF := Lib.hid hfin
            clear hfin hT HQ h2 h3 h6 hul huc
            go_wp2_with fail
            refine U1.out.mono ?_
            rintro e w1 ⟨rfl, rfl⟩
            go_wp2_with fail
            refine U2.out.mono ?_
            rintro e w1 ⟨rfl, rfl⟩
            go_wp2
            go_ret2
            exact ⟨_, by rw [HF.out]; rfl, by rw [HF.out]; exact World.ownsRow_nil _ _ _ _, hlow⟩
          have t6 : (d == 0) = false := beq_eq_false_iff_ne.2 h6
          by_cases h7 : (o.length : Int) < d
          · rw [if_pos (.inr h7)] at hT
            have t7 : decide (d > (o.length : Int)) = true := decide_eq_true h7
            have hfin := HQ.out.trans ((unp_err xs most p o hlt (by rw [hT]; simp)).trans (by rw [hT]))
            have HF := Lib.hid hfin
            clear hfin hT HQ h2 h3 h6 h7 hul huc
            go_wp2_with fail
            refine U1.out.mono ?_
            rintro e w1 ⟨rfl, rfl⟩
            go_wp2_with fail
            refine U2.out.mono ?_
            rintro e w1 ⟨rfl, rfl⟩
            go_wp2
            go_ret2
            exact ⟨_, by rw [HF.out]; rfl, by rw [HF.out]; exact World.ownsRow_nil _ _ _ _, hlow⟩
          rw [if_neg (by omega)] at hT
          have t7 : decide (d > (o.length : Int)) = false := decide_eq_false h7
          by_cases h4 : -(o.length : Int) < x / 2
          · rw [if_pos h4] at hT
            have t4 : decide (x / 2 > -(o.length : Int)) = true := decide_eq_true h4
            have hfin := HQ.out.trans ((unp_err xs most p o hlt (by rw [hT]; simp)).trans (by rw [hT]))
            have HF := Lib.hid hfin
            clear hfin hT HQ h2 h3 h4 h6 h7 hul huc
            go_wp2_with fail
            refine U1.out.mono ?_
            rintro e w1 ⟨rfl, rfl⟩
            go_wp2_with fail
            refine U2.out.mono ?_
            rintro e w1 ⟨rfl, rfl⟩
            go_wp2
            go_ret2
            exact ⟨_, by rw [HF.out]; rfl, by rw [HF.out]; exact World.ownsRow_nil _ _ _ _, hlow⟩
          exact absurd h4 (by omega)
        · rw [if_pos he2] at hT
          have q1 : (er2 != 0) = true := by rw [bne_iff_ne]; exact he2
          have hfin := HQ.out.trans ((unp_err xs most p o hlt (by rw [hT]; exact he2)).trans (by rw [hT]))
          have HF := Lib.hid hfin
          clear hfin hT HQ h2 h3 hok2 hul huc
          go_wp2_with fail
          refine U1.out.mono ?_
          rintro e w1 ⟨rfl, rfl⟩
          go_wp2_with fail
          refine U2.out.mono ?_
          rintro e w1 ⟨rfl, rfl⟩
          go_wp2
          go_ret2
          exact ⟨_, by rw [HF.out]; rfl, by rw [HF.out]; exact World.ownsRow_nil _ _ _ _, hlow⟩
      · rw [if_pos he] at hT
        have q0 : (er != 0) = true := by rw [bne_iff_ne]; exact he
        have hfin := HQ.out.trans ((unp_err xs most p o hlt (by rw [hT]; exact he)).trans (by rw [hT]))
        have HF := Lib.hid hfin
        clear hfin hT HQ hok1 hok UF hul huc
        go_wp2_with fail
        refine U1.out.mono ?_
        rintro e w1 ⟨rfl, rfl⟩
        go_wp2
        go_ret2
        exact ⟨_, by rw [HF.out]; rfl, by rw [HF.out]; exact World.ownsRow_nil _ _ _ _, hlow⟩
    · have d1 : decide ((p : Int) < (xs.length : Int)) = false := decide_eq_false (by omega)
      have d1' : decide (p < xs.length) = false := decide_eq_false hlt
      have hfin := HQ.out.trans (unp_end xs most p o (by omega))
      have HF := Lib.hid hfin
      clear hfin
      go_wp2
      go_ret2
      exact ⟨_, by rw [HF.out]; rfl, by rw [HF.out]; exact HO.out, hlow⟩

theorem runpack_any (most : Int) (a : Option Addr) (c : Nat) (xs : List Int) (w : World) (hx : Ints .u8 w a xs) (hb : AllB xs) (hc : xs.length ≤ c) (hl : xs.length ≤ 1000000) (hm1 : most ≤ 1000000) (hm2 : -9223372036854775808 ≤ most) :
    Calls Try.prog 10 #[.slice a xs.length c, .int .i64 most] w fun e w' => ∃ v, e = .returned (.tuple #[v, .int .i64 (unp xs most 0 []).2]) ∧ w'.ownsRow w.heap.size 5 1 v (unp xs most 0 []).1.length ((unp xs most 0 []).1.map (Value.int .u8)) ∧ Below w.heap.size w w' := by
  by_cases h : 0 ≤ most
  · exact runpack_pos most a c xs w hx hb hc hl hm1 hm2 h
  · exact runpack_neg most a c xs w hx hb hc hl hm1 hm2 (by omega)
end Go.Proofs.Ytbihkkaikcfilaa
