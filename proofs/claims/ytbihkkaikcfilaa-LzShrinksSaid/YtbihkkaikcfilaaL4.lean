/- The contract of lz.Unpack: it returns what the plain function says of the bytes and the limit. -/
import Derived.Test.YtbihkkaikcfilaaL3
import Derived.Deep.LoopGhost
namespace Go.Proofs.Ytbihkkaikcfilaa
open Go.RowKit
set_option linter.unusedVariables false
set_option linter.unusedSimpArgs false

theorem Rdr.kept {w w' : World} {g : Nat} {a : Option Addr} {n c : Nat} {p : Int} (h : Rdr w g a n c p) (hb : w'.heap[g]? = w.heap[g]?) : Rdr w' g a n c p :=
  ⟨(World.cell?_of_block (a := ⟨g, 0, none⟩) hb).trans h.f0, (World.cell?_of_block (a := ⟨g, 1, none⟩) hb).trans h.f1, (World.frozen?_of_block (a := ⟨g, 1, none⟩) hb).trans h.z1⟩

theorem below_g {w wr w1 : World} (h : Below w.heap.size w wr) (hg : wr.grownBy w1 (some w.heap.size)) : Below w.heap.size w w1 := h.grown hg h.size (fun k hk => by cases hk; exact Nat.le_refl _)

theorem vals_some {w : World} {ad : Addr} {xs : List Value} (h : Vals w (some ad) xs) : ∀ j u, xs[j]? = some u → w.cell? (ad.add j) = some u := fun j u hj => by
  obtain ⟨x, hx, h⟩ := h.at hj
  cases hx
  exact h

structure UInv (w : World) (g : Nat) (a : Option Addr) (c : Nat) (xs : List Int) (most : Int) (p : Nat) (o : List Int) (out : Value) (wr : World) : Prop where
  le : p ≤ xs.length
  rdr : Rdr wr g a xs.length c p
  own : wr.ownsRow (g + 1) 5 1 out o.length (o.map (Value.int .u8))
  all : AllB o
  low : Below w.heap.size w wr
  eq : unp xs most 0 [] = unp xs most p o
  room : o.length = 0 ∨ (o.length : Int) ≤ most

theorem unpack_start (w : World) (a : Option Addr) (c : Nat) (xs : List Int) (most : Int) : UInv w w.heap.size a c xs most 0 [] (.slice none 0 0) (w.alloc (.cells #[.slice a xs.length c, .int .i64 0] 42)) where
  le := Nat.zero_le _
  rdr := ⟨by rw [World.cell?_alloc_at _ _ _ _ rfl]; rfl, by rw [World.cell?_alloc_at _ _ _ _ rfl]; rfl, World.frozen?_alloc_at _ _ _ _ rfl⟩
  own := World.ownsRow_nil _ _ _ _
  all := fun x h => by cases h
  low := (Below.refl _ _).alloc (Nat.le_refl _) _
  eq := rfl
  room := .inl rfl

set_option maxHeartbeats 4000000 in
theorem unpack_any (most : Int) (a : Option Addr) (c : Nat) (xs : List Int) (w : World) (hx : Ints .u8 w a xs) (hb : AllB xs) (hc : xs.length ≤ c) (hl : xs.length ≤ 1000000) (hm1 : most ≤ 1000000) (hm2 : -9223372036854775808 ≤ most) :
    Calls Try.prog 9 #[.slice a xs.length c, .int .i64 most] w fun e w' => ∃ v, e = .returned (.tuple #[v, .int .i64 (unp xs most 0 []).2]) ∧ w'.ownsRow w.heap.size 5 1 v (unp xs most 0 []).1.length ((unp xs most 0 []).1.map (Value.int .u8)) ∧ Below w.heap.size w w' := by
  have HS := Lib.hid (unpack_start w a c xs most)
  go_enter Try.func9, Try.ntmps9
  go_wp2
  go_loopg [7] xs.length (fun k out wr => ∃ (p : Nat) (o : List Int), k = xs.length - p ∧ UInv w w.heap.size a c xs most p o out wr)
  case atStart => exact ⟨0, [], rfl, HS.out⟩
  case round =>
    obtain ⟨p, o, rfl, inv⟩ := hrel
    obtain ⟨hle, hr, hown, hao, hlow, heq, hroom⟩ := inv
    obtain ⟨f0, f1, z1⟩ := hr
    have hr : Hid (Rdr wr w.heap.size a xs.length c p) := ⟨f0, f1, z1⟩
    obtain ⟨ao, co, rfl, hio⟩ := ints_own hown
    have HO := Lib.hid hown
    have HQ := Lib.hid heq
    clear hown heq
    by_cases hlt : p < xs.length
    · have d1 : decide ((p : Int) < (xs.length : Int)) = true := decide_eq_true (by omega)
      have d1' : decide (p < xs.length) = true := decide_eq_true hlt
      have hol : (o.length : Int) ≤ 1000000 := by omega
      have TK := token_any w.heap.size p o.length most a c xs wr hr.out hle (hx.below hlow) hb hc hl (by omega) hol hm1 (by omega) (fun q hq hne e => by have := hx.vals.lt q hq (by simpa using hne); omega)
      have hok := tok_ok xs p o.length most hb
      have hue := unp_err xs most p o hlt
      have hul := unp_lit xs most p o hb hlt
      have huc := unp_cpy xs most p o hb hlt
      generalize tokOf xs p o.length most = T at *
      obtain ⟨n, d, er, nx⟩ := T
      simp only at TK hok hue hul huc
      have TT := Lib.hid TK
      clear TK
      by_cases he : er = 0
      · subst he
        obtain ⟨k1, k2, k3, k4, k5, k6, k7⟩ := hok rfl
        obtain ⟨i5, hi5, hy0, hy1, hy2⟩ := info_parts info5
        obtain ⟨n, rfl⟩ := Int.eq_ofNat_of_zero_le (show 0 ≤ n by omega)
        obtain ⟨nx, rfl⟩ := Int.eq_ofNat_of_zero_le (show 0 ≤ nx by omega)
        by_cases hd : d = 0
        · subst hd
          have hfin := HQ.out.trans (hul rfl rfl)
          rw [show ((nx : Int) + (n : Int)).toNat = nx + n from by omega, Int.toNat_natCast, Int.toNat_natCast] at hfin
          have hnl : nx + n ≤ xs.length := by have := k5 rfl; omega
          have hI : ∀ wx, Below w.heap.size w wx → Ints .u8 wx _ _ := fun wx h => ((hx.below h).drop nx c hc).take n
          have hcut := fun W => mid_run (P := Try.prog) 22 5 Try.underlying22 hi5 .i64 .i64 a xs.length c nx (nx + n) (by omega) (by omega) W
          rw [hy1, show ((nx + n : Nat) : Int) = (nx : Int) + (n : Int) from by omega, show nx + n - nx = n from by omega] at hcut
          have hln : ((xs.drop nx).take n).length = n := by rw [List.length_take, List.length_drop]; omega
          have hab := (hb.drop nx).take n
          generalize (if c = nx then a else a.map (·.add (nx * 1))) = a2 at *
          generalize (xs.drop nx).take n = lit at *
          have HF := Lib.hid hfin
          have HI := Lib.hid hI
          have HL := Lib.hid hln
          have hnn : 1 ≤ n := by omega
          obtain ⟨ad, rfl, _⟩ := (HI.out _ hlow).at (i := 0) (by rw [HL.out]; omega)
          clear hfin hue hul huc hok HQ hI hln k5 k6 k7
          go_wp2_with fail
          refine TT.out.mono ?_
          rintro e w1 ⟨rfl, hr1, hg1⟩
          have hlow1 := below_g hlow hg1
          have HO1 := HO.out.kept hg1 (by
            rcases HO.out.2 with ⟨h, _⟩ | ⟨g', cap, cur, h, hge, _⟩
            · left; rw [h]; rfl
            · right; rw [h]; simp [Value.ownBlock]; omega)
          obtain ⟨f0', f1', z1'⟩ := hr1
          have hr1 : Hid (Rdr w1 w.heap.size a xs.length c nx) := ⟨f0', f1', z1'⟩
          have hnews := vals_some (HI.out _ hlow1).vals
          have hw1 : IntKind.i64.wrap ((nx : Int) + (n : Int)) = (nx : Int) + n := IntWalk.i64_in _ (by omega)
          have hb0 : (0 : Int) ≤ (nx : Int) := by omega
          have hb1 : (0 : Int) ≤ (nx : Int) + (n : Int) := by omega
          have hb2 : (nx : Int) + (n : Int) ≤ (c : Int) := by omega
          have NW := Lib.hid hnews
          have hneg : some w.heap.size ≠ (Value.slice ao o.length co).ownBlock := fun e => by have := (HO1.lt _ e.symm).1; omega
          have hg1lt : w.heap.size < w1.heap.size := hr1.out.lt
          clear hnews
          go_wp2
          go_region_held3 (fun wx => wx.cell? ⟨w.heap.size, 1, none⟩ = some (.int .i64 nx)) (first | exact f1' | exact (hgrow.cell_far ⟨w.heap.size, 1, none⟩ hg1lt hneg).trans f1')
            ((refine step_append_lies _ (by rfl) _ _ _ (by rfl) (w.heap.size + 1) 5 i5 _ 1 1 Try.underlying22 hi5 hy0 hy1 hy2 rfl (by omega) (.slice ao o.length co) o.length (o.map (Value.int .u8)) (by rfl) HO1.drew ad n (c - nx) (lit.map (Value.int .u8)) (by rfl) (by simp [HL.out]) NW.out (ints_oneCell _ _) (by omega) (by unfold maxLen; omega) (by omega) (by have := hr1.out.lt; simp; omega) w1.heap.size (by simp) ?_; intro gg cap w3 hown3 hgrow hat3 hlt3))
          have hr3 := hr1.out.kept (w' := w3) (hgrow.block _ hg1lt hneg)
          have hlow3 : Below w.heap.size w w3 := hlow1.drew.grown hgrow hlow1.size (fun k hk => by have := (HO1.lt _ hk).1; omega)
          have HO3 : Hid (w3.ownsRow (w.heap.size + 1) 5 1 (.slice (some ⟨gg, 0, none⟩) (o.length + n) cap) (o ++ lit).length ((o ++ lit).map (Value.int .u8))) := by
            have e : (o ++ lit).length = o.length + n := by rw [List.length_append, HL.out]
            rw [e, List.map_append]; exact hown3
          obtain ⟨g0, g1, g2⟩ := hr3
          have hr3 : Hid (Rdr w3 w.heap.size a xs.length c nx) := ⟨g0, g1, g2⟩
          clear hown3 hgrow HO1 HO f0' f1' z1' f0 f1 z1 hneg hg1lt hr hr1
          go_wp2
          go_roundg (xs.length - (nx + n))
          case measure => omega
          case rel =>
            exact ⟨nx + n, o ++ lit, rfl, by omega, hr3.out.put _, ownsRow_setCell_below HO3.out (by simp) _, hao.append hab, hlow3.setCell (Nat.le_refl _) _, HF.out, by rw [List.length_append, HL.out]; omega⟩
        · obtain ⟨d, rfl⟩ := Int.eq_ofNat_of_zero_le (show 0 ≤ d by omega)
          have hd' : d ≠ 0 := fun e => hd (by rw [e]; rfl)
          have hfin := HQ.out.trans (huc rfl hd)
          rw [Int.toNat_natCast, Int.toNat_natCast, Int.toNat_natCast] at hfin
          have q1 : ((d : Int) == 0) = false := beq_eq_false_iff_ne.2 hd
          have hdo : d ≤ o.length := by have := k7 hd; omega
          have HF := Lib.hid hfin
          clear hfin hue hul huc hok HQ hd k5 k6 k7
          go_wp2_with fail
          refine TT.out.mono ?_
          rintro e w1 ⟨rfl, hr1, hg1⟩
          have hlow1 := below_g hlow hg1
          have HO1 := HO.out.kept hg1 (by
            rcases HO.out.2 with ⟨h, _⟩ | ⟨g', cap, cur, h, hge, _⟩
            · left; rw [h]; rfl
            · right; rw [h]; simp [Value.ownBlock]; omega)
          have HR1 := Lib.hid hr1
          have HO1' := Lib.hid HO1
          clear hr1 HO1 f0 f1 z1
          go_wp2
          go_loopw [7, 58] (fun out i wx => ∃ j : Nat, j ≤ n ∧ i = .int .i64 j ∧ wx.ownsRow (w.heap.size + 1) 5 1 out (cpy o d j).length ((cpy o d j).map (Value.int .u8)) ∧ Rdr wx w.heap.size a xs.length c nx ∧ Below w.heap.size w wx) (fun _ i _ => n - (intOf i).toNat)
          case atStart => exact ⟨0, Nat.zero_le _, rfl, HO1'.out, HR1.out, hlow1⟩
          case round =>
            obtain ⟨j, hj, rfl, hown2, hr2, hlow2⟩ := hrel
            obtain ⟨a2, c2, rfl, hi2⟩ := ints_own hown2
            have hcl := cpy_length o d j
            have hcs : cpy o d (j + 1) = cpy o d j ++ [(cpy o d j).getD ((cpy o d j).length - d) 0] := rfl
            have hca := cpy_all o d j hao
            generalize hq : cpy o d j = q at *
            have HQ2 := Lib.hid hq
            clear hq
            have HR2 := Lib.hid hr2
            have HC := Lib.hid hcl
            have HS2 := Lib.hid hcs
            have hqd : d ≤ q.length := by omega
            have hqn : q.length ≤ 2000000 := by omega
            clear hr2 hcs hcl
            by_cases hlt2 : j < n
            · obtain ⟨ad, rfl, hcell⟩ := hi2.at (i := q.length - d) (by omega)
              have hyb := (show AllB q from hca).getD (q.length - d)
              generalize q.getD (q.length - d) 0 = y at *
              have e1 : (q.length : Int) - (d : Int) = ((q.length - d : Nat) : Int) := by omega
              have b1 : ((q.length - d : Nat) : Int) < (q.length : Int) := by omega
              have hlt2' : (j : Int) < (n : Int) := by omega
              have HI2 := Lib.hid hi2
              clear hi2
              go_wp2_with (at_builtin; refine wpList_append_own _ rfl _ _ 22 rfl (w.heap.size + 1) 5 i5 (.int .u8 0) 1 1 Try.underlying22 hi5 hy0 hy1 hy2 rfl (by decide) _ q.length (q.map (Value.int .u8)) rfl (hown2.alloc _) ⟨wr.heap.size, 0, none⟩ 1 1 [.int .u8 y] rfl rfl (cell_one_new _ _ _) (by simp [Value.oneCell']) (by unfold maxLen; omega) (by omega) (by have := HR2.out.lt; simp; omega) ?_)
              intro v3 w3 hown3 hgrow3 _
              have hgl := HR2.out.lt
              have hlow3 : Below w.heap.size w w3 := (below_alloc hlow2 _).grown hgrow3 (by simp; omega) (fun k hk => by have := ((hown2.alloc (.cells #[.int .u8 y] 5)).lt _ hk).1; omega)
              have HR3 : Hid (Rdr w3 w.heap.size a xs.length c nx) := by
                refine HR2.out.kept ?_
                rw [hgrow3.block _ (by simp; omega) (fun e => by have := ((hown2.alloc (.cells #[.int .u8 y] 5)).lt _ e.symm).1; omega), Below.heap_alloc _ _ _ hgl]
              have HO3 := Lib.hid (own_snoc (m := (q ++ [y]).length) hown3 (by simp))
              clear hown3 hgrow3 hown2
              go_wp2
              go_roundw
              case rel => exact ⟨j + 1, by omega, by go_num, by rw [HS2.out]; exact HO3.out, HR3.out, hlow3⟩
              case measure => simp [intOf]; omega
            · obtain rfl : j = n := by omega
              go_wp2
              go_roundg (xs.length - nx)
              case measure => omega
              case rel => exact ⟨nx, q, rfl, by omega, HR2.out, hown2, hca, hlow2, by rw [← HQ2.out]; exact HF.out, by have := HC.out; omega⟩
      · have q0 : (er != 0) = true := by rw [bne_iff_ne]; exact he
        have hfin := HQ.out.trans (hue he)
        have HF := Lib.hid hfin
        clear hfin hue hul huc hok HQ
        go_wp2_with fail
        refine TT.out.mono ?_
        rintro e w1 ⟨rfl, hr1, hg1⟩
        go_wp2
        go_ret2
        refine ⟨_, by rw [HF.out]; rfl, by rw [HF.out]; exact World.ownsRow_nil _ _ _ _, below_g hlow hg1⟩
    · have d1 : decide ((p : Int) < (xs.length : Int)) = false := decide_eq_false (by omega)
      have d1' : decide (p < xs.length) = false := decide_eq_false hlt
      have hfin := HQ.out.trans (unp_end xs most p o (by omega))
      have HF := Lib.hid hfin
      clear hfin
      go_wp2
      go_ret2
      exact ⟨_, by rw [HF.out]; rfl, by rw [HF.out]; exact ownsRow_mono HO.out (by omega), hlow⟩
end Go.Proofs.Ytbihkkaikcfilaa
