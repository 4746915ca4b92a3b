/- The contract of lz.Size: it returns the length of what Unpack returns, or the error. -/
import Derived.Test.YtbihkkaikcfilaaL4
namespace Go.Proofs.Ytbihkkaikcfilaa
open Go.RowKit
set_option linter.unusedVariables false
set_option linter.unusedSimpArgs false

structure SInv (w : World) (g : Nat) (a : Option Addr) (c : Nat) (xs : List Int) (most : Int) (p : Nat) (o : List Int) (wr : World) : Prop where
  le : p ≤ xs.length
  rdr : Rdr wr g a xs.length c p
  low : Below w.heap.size w wr
  eq : unp xs most 0 [] = unp xs most p o
  room : o.length = 0 ∨ (o.length : Int) ≤ most

set_option maxHeartbeats 4000000 in
theorem size_any (most : Int) (a : Option Addr) (c : Nat) (xs : List Int) (w : World) (hx : Ints .u8 w a xs) (hb : AllB xs) (hc : xs.length ≤ c) (hl : xs.length ≤ 1000000) (hm1 : most ≤ 1000000) (hm2 : -9223372036854775808 ≤ most) :
    Calls Try.prog 11 #[.slice a xs.length c, .int .i64 most] w fun e w' => e = .returned (.tuple #[.int .i64 (unp xs most 0 []).1.length, .int .i64 (unp xs most 0 []).2]) ∧ Below w.heap.size w w' := by
  have hs := unpack_start w a c xs most
  have HS : Hid (SInv w w.heap.size a c xs most 0 [] (w.alloc (.cells #[.slice a xs.length c, .int .i64 0] 42))) := ⟨hs.le, hs.rdr, hs.low, hs.eq, hs.room⟩
  clear hs
  go_enter Try.func11, Try.ntmps11
  go_wp2
  go_loopg [7] xs.length (fun k z wr => ∃ (p : Nat) (o : List Int), k = xs.length - p ∧ z = .int .i64 o.length ∧ SInv w w.heap.size a c xs most p o wr)
  case atStart => exact ⟨0, [], rfl, rfl, HS.out⟩
  case round =>
    obtain ⟨p, o, rfl, rfl, inv⟩ := hrel
    obtain ⟨hle, hr, hlow, heq, hroom⟩ := inv
    obtain ⟨f0, f1, z1⟩ := hr
    have hr : Hid (Rdr wr w.heap.size a xs.length c p) := ⟨f0, f1, z1⟩
    have HQ := Lib.hid heq
    clear heq
    by_cases hlt : p < xs.length
    · have d1 : decide ((p : Int) < (xs.length : Int)) = true := decide_eq_true (by omega)
      have d1' : decide (p < xs.length) = true := decide_eq_true hlt
      have hol : (o.length : Int) ≤ 1000000 := by omega
      have TK := token_any w.heap.size p o.length most a c xs wr hr.out hle (hx.below hlow) hb hc hl (by omega) hol hm1 (by omega) (fun q hq hne e => by have := hx.vals.lt q hq (by simpa using hne); omega)
      have hok := tok_ok xs p o.length most hb
      have hue := unp_err xs most p o hlt
      have hul := unp_lit xs most p o hb hlt
      have huc := unp_cpy xs most p o hb hlt
      generalize tokOf xs p o.length most = T at *
      obtain ⟨n, d, er, nx⟩ := T
      simp only at TK hok hue hul huc
      have TT := Lib.hid TK
      clear TK
      by_cases he : er = 0
      · subst he
        obtain ⟨k1, k2, k3, k4, k5, k6, k7⟩ := hok rfl
        obtain ⟨n, rfl⟩ := Int.eq_ofNat_of_zero_le (show 0 ≤ n by omega)
        obtain ⟨nx, rfl⟩ := Int.eq_ofNat_of_zero_le (show 0 ≤ nx by omega)
        by_cases hd : d = 0
        · subst hd
          have hfin := HQ.out.trans (hul rfl rfl)
          rw [show ((nx : Int) + (n : Int)).toNat = nx + n from by omega, Int.toNat_natCast, Int.toNat_natCast] at hfin
          have hnl : nx + n ≤ xs.length := by have := k5 rfl; omega
          have hln : (o ++ (xs.drop nx).take n).length = o.length + n := by rw [List.length_append, List.length_take, List.length_drop]; omega
          generalize o ++ (xs.drop nx).take n = o2 at *
          have HF := Lib.hid hfin
          have HL := Lib.hid hln
          clear hfin hue hul huc hok HQ hln k5 k6 k7
          go_wp2_with fail
          refine TT.out.mono ?_
          rintro e w1 ⟨rfl, hr1, hg1⟩
          have hlow1 := below_g hlow hg1
          obtain ⟨f0', f1', z1'⟩ := hr1
          have hr1 : Hid (Rdr w1 w.heap.size a xs.length c nx) := ⟨f0', f1', z1'⟩
          go_wp2
          go_roundg (xs.length - (nx + n))
          case measure => omega
          case rel => exact ⟨nx + n, o2, rfl, by rw [HL.out]; go_num, by omega, hr1.out.put _, hlow1.setCell (Nat.le_refl _) _, HF.out, by have := HL.out; omega⟩
        · obtain ⟨d, rfl⟩ := Int.eq_ofNat_of_zero_le (show 0 ≤ d by omega)
          have hfin := HQ.out.trans (huc rfl hd)
          rw [Int.toNat_natCast, Int.toNat_natCast, Int.toNat_natCast] at hfin
          have q1 : ((d : Int) == 0) = false := beq_eq_false_iff_ne.2 hd
          have hln := cpy_length o d n
          generalize cpy o d n = o2 at *
          have HF := Lib.hid hfin
          have HL := Lib.hid hln
          clear hfin hue hul huc hok HQ hd k5 k6 k7 hln
          go_wp2_with fail
          refine TT.out.mono ?_
          rintro e w1 ⟨rfl, hr1, hg1⟩
          have hlow1 := below_g hlow hg1
          have HR1 := Lib.hid hr1
          clear hr1 f0 f1 z1
          go_wp2
          go_roundg (xs.length - nx)
          case measure => omega
          case rel => exact ⟨nx, o2, rfl, by rw [HL.out]; go_num, by omega, HR1.out, hlow1, HF.out, by have := HL.out; omega⟩
      · have q0 : (er != 0) = true := by rw [bne_iff_ne]; exact he
        have hfin := HQ.out.trans (hue he)
        have HF := Lib.hid hfin
        clear hfin hue hul huc hok HQ
        go_wp2_with fail
        refine TT.out.mono ?_
        rintro e w1 ⟨rfl, hr1, hg1⟩
        go_wp2
        go_ret2
        exact ⟨by rw [HF.out]; rfl, below_g hlow hg1⟩
    · have d1 : decide ((p : Int) < (xs.length : Int)) = false := decide_eq_false (by omega)
      have d1' : decide (p < xs.length) = false := decide_eq_false hlt
      have hfin := HQ.out.trans (unp_end xs most p o (by omega))
      have HF := Lib.hid hfin
      clear hfin
      go_wp2
      go_ret2
      exact ⟨by rw [HF.out]; rfl, hlow⟩
end Go.Proofs.Ytbihkkaikcfilaa
