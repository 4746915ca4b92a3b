/- New, in the program and in the reference. -/
import Derived.Test.YtdfnpknekjgkiaaD9
import Derived.StillTailTactics
import Derived.BigQuiet
namespace Go.Proofs.Ytdfnpknekjgkiaa
open Go.RowKit
set_option linter.unusedVariables false
set_option linter.unusedSimpArgs false

/-- What New returns. -/
def NewR (l : Shares) (w : World) (e : Ending) (w' : World) : Prop :=
  (if ckOf l = 0 then ∃ g, e = .returned (.tuple #[.agg #[.int .i64 l.length, .slice (some ⟨g, 0, none⟩) (l.length + 1) (l.length + 1)], .int .i64 0]) ∧ RowI w' w.heap.size g (l.length + 1) (List.replicate (l.length + 1) 0)
   else e = .returned (.tuple #[.agg #[.int .i64 0, .slice none 0 0], .int .i64 (ckOf l)])) ∧ Below w.heap.size w w'
theorem make_ints' (W : World) (base n : Nat) (hn : n ≤ 1000000) (hb : base ≤ W.heap.size) : (Instr.makeSlice 27 (.int .i64 ((n : Int) + 1)) (.int .i64 ((n : Int) + 1))).run Try.prog W = .ok (.slice (some ⟨W.heap.size, 0, none⟩) (n + 1) (n + 1)) (W.alloc (.cells (madeCells #[.int .i64 0] (n + 1)) 3)) ∧ RowI (W.alloc (.cells (madeCells #[.int .i64 0] (n + 1)) 3)) base W.heap.size (n + 1) (List.replicate (n + 1) 0) := by
  by_cases h : n + 1 ≤ 1000000
  · have := make_ints W base (n + 1) h hb
    rw [show ((n + 1 : Nat) : Int) = (n : Int) + 1 from by omega, Nat.mul_one] at this
    exact this
  · obtain ⟨i0, hi, hz0, hz1, hz2⟩ := info_parts info3
    have hr := run_make (P := Try.prog) W 27 3 i0 (.int .i64 0) Try.underlying27 hi hz0 .i64 .i64 ((n + 1 : Nat) : Int) ((n + 1 : Nat) : Int) (by omega) (Int.le_refl _) (by rw [hz2]; omega) (by omega)
    simp only [Int.toNat_natCast, hz1, Nat.mul_one] at hr
    rw [show ((n + 1 : Nat) : Int) = (n : Int) + 1 from by omega] at hr
    refine ⟨hr, ?_⟩
    have := World.ownsRow_lit (base := base) (e := 3) (size := 1) W (madeCells #[.int .i64 0] (n + 1)) (n + 1) hb (by unfold maxLen; omega) (by rw [size_madeCells]; omega)
    unfold RowI Row
    rw [List.length_replicate, List.map_replicate]
    have e : (madeCells #[Value.int .i64 0] (n + 1)).toList = List.replicate (n + 1) (.int .i64 0) := toList_madeCells_one _ _
    rw [e] at this; exact this
set_option maxRecDepth 100000 in
set_option maxHeartbeats 4000000 in
theorem new_any (l : Shares) (a : Option Addr) (c : Nat) (w : World) (hx : Shs w a l) (hc : l.length ≤ c) (hlm : l.length ≤ 1000000) :
    Calls Try.prog 12 #[.slice a l.length c] w (NewR l w) := by
  obtain ⟨W1, hW1⟩ : ∃ W1, W1 = w.alloc (.cells #[.int .i64 0, .slice none 0 0] 31) := ⟨_, rfl⟩
  have hb1 : Below w.heap.size w W1 := by rw [hW1]; exact below_alloc (Below.refl _ _) _
  have B1 : Blk W1 w.heap.size 31 #[.int .i64 0, .slice none 0 0] := by rw [hW1]; exact Blk.new w 31 _
  have CK := Lib.hid (check_any l a c W1 (hx.below hb1) hc hlm)
  have HB := Lib.hid (And.intro hb1 B1)
  clear hb1 B1 hx
  by_cases h : ckOf l = 0
  · rw [h] at CK
    have HH := Lib.hid h
    have hmk := fun W => (make_ints' W 0 l.length hlm (Nat.zero_le _)).1
    clear h
    go_enter Try.func12, Try.ntmps12
    go_wp2_with fail
    rw [← hW1]
    refine CK.out.mono ?_
    rintro e w2 ⟨rfl, hb2⟩
    clear hW1
    have B2 := HB.out.2.below hb2
    have L2 := Below.next HB.out.1 hb2
    have d0 : w2.cell? ⟨w.heap.size, 0, none⟩ = some (.int .i64 0) := B2.cell 0
    have d1 : w2.cell? ⟨w.heap.size, 1, none⟩ = some (.slice none 0 0) := B2.cell 1
    have d2 := fun j => B2.free j
    have hlt : w.heap.size < w2.heap.size := B2.lt
    have HM := Lib.hid (And.intro B2 L2)
    clear B2 L2 hb2
    go_wp2
    obtain ⟨B2, L2⟩ := HM.out
    have BA := ((B2.set 0 (.int .i64 l.length)).set 1 (.slice (some ⟨w2.heap.size, 0, none⟩) (l.length + 1) (l.length + 1))).alloc (.cells (madeCells #[.int .i64 0] (l.length + 1)) 3)
    have hsz4 : ((w2.setCell ⟨w.heap.size, 0, none⟩ (.int .i64 l.length)).setCell ⟨w.heap.size, 1, none⟩ (.slice (some ⟨w2.heap.size, 0, none⟩) (l.length + 1) (l.length + 1))).heap.size = w2.heap.size := by rw [size_setCell, size_setCell]
    have RA := (make_ints' ((w2.setCell ⟨w.heap.size, 0, none⟩ (.int .i64 l.length)).setCell ⟨w.heap.size, 1, none⟩ (.slice (some ⟨w2.heap.size, 0, none⟩) (l.length + 1) (l.length + 1))) w.heap.size l.length hlm (by rw [hsz4]; omega)).2
    rw [hsz4] at RA
    have LA := below_alloc ((L2.setCell (p := ⟨w.heap.size, 0, none⟩) (Nat.le_refl _) (.int .i64 l.length)).setCell (p := ⟨w.heap.size, 1, none⟩) (Nat.le_refl _) (.slice (some ⟨w2.heap.size, 0, none⟩) (l.length + 1) (l.length + 1))) (.cells (madeCells #[.int .i64 0] (l.length + 1)) 3)
    obtain ⟨W4, hW4⟩ : ∃ W4, W4 = ((w2.setCell ⟨w.heap.size, 0, none⟩ (.int .i64 l.length)).setCell ⟨w.heap.size, 1, none⟩ (.slice (some ⟨w2.heap.size, 0, none⟩) (l.length + 1) (l.length + 1))).alloc (.cells (madeCells #[.int .i64 0] (l.length + 1)) 3) := ⟨_, rfl⟩
    rw [← hW4] at BA RA LA ⊢
    have e0 : W4.cell? ⟨w.heap.size, 0, none⟩ = some (.int .i64 l.length) := BA.cell 0
    have e1 : W4.cell? ⟨w.heap.size, 1, none⟩ = some (.slice (some ⟨w2.heap.size, 0, none⟩) (l.length + 1) (l.length + 1)) := BA.cell 1
    refine bodyPost_ret (v := .tuple #[.agg #[.int .i64 l.length, .slice (some ⟨w2.heap.size, 0, none⟩) (l.length + 1) (l.length + 1)], .int .i64 0]) (by simp [results, Try.results12, Try.f12, go_sem, e0, e1]) rfl ?_
    unfold NewR
    rw [if_pos HH.out]
    exact ⟨⟨w2.heap.size, rfl, RA⟩, LA⟩
  · have q : (ckOf l != 0) = true := by rw [bne_iff_ne]; exact h
    have HH := Lib.hid h
    obtain ⟨ck, hck⟩ : ∃ ck, ckOf l = ck := ⟨_, rfl⟩
    rw [hck] at CK q
    have HCK := Lib.hid hck
    clear h hck
    go_enter Try.func12, Try.ntmps12
    go_wp2_with fail
    rw [← hW1]
    refine CK.out.mono ?_
    rintro e w2 ⟨rfl, hb2⟩
    clear hW1
    have B2 := HB.out.2.below hb2
    have L2 := Below.next HB.out.1 hb2
    have d0 : w2.cell? ⟨w.heap.size, 0, none⟩ = some (.int .i64 0) := B2.cell 0
    have d1 : w2.cell? ⟨w.heap.size, 1, none⟩ = some (.slice none 0 0) := B2.cell 1
    have d2 := fun j => B2.free j
    have HM := Lib.hid (And.intro B2 L2)
    clear B2 L2 hb2
    go_wp2
    obtain ⟨B2, L2⟩ := HM.out
    have BA := (B2.set 0 (.int .i64 0)).set 1 (.slice none 0 0)
    have LA := (L2.setCell (p := ⟨w.heap.size, 0, none⟩) (Nat.le_refl _) (.int .i64 0)).setCell (p := ⟨w.heap.size, 1, none⟩) (Nat.le_refl _) (.slice none 0 0)
    obtain ⟨W4, hW4⟩ : ∃ W4, W4 = (w2.setCell ⟨w.heap.size, 0, none⟩ (.int .i64 0)).setCell ⟨w.heap.size, 1, none⟩ (.slice none 0 0) := ⟨_, rfl⟩
    rw [← hW4] at BA LA ⊢
    have e0 : W4.cell? ⟨w.heap.size, 0, none⟩ = some (.int .i64 0) := BA.cell 0
    have e1 : W4.cell? ⟨w.heap.size, 1, none⟩ = some (.slice none 0 0) := BA.cell 1
    refine bodyPost_ret (v := .tuple #[.agg #[.int .i64 0, .slice none 0 0], .int .i64 ck]) (by simp [results, Try.results12, Try.f12, go_sem, e0, e1]) rfl ?_
    unfold NewR
    rw [if_neg HH.out, HCK.out]
    exact ⟨rfl, LA⟩
theorem err_world {w W : World} (B : Blk W w.heap.size 35 #[.int .i64 0, .slice none 0 0]) (L : Below w.heap.size w W) : Blk ((W.setCell ⟨w.heap.size, 0, none⟩ (.int .i64 0)).setCell ⟨w.heap.size, 1, none⟩ (.slice none 0 0)) w.heap.size 35 #[.int .i64 0, .slice none 0 0] ∧ Below w.heap.size w ((W.setCell ⟨w.heap.size, 0, none⟩ (.int .i64 0)).setCell ⟨w.heap.size, 1, none⟩ (.slice none 0 0)) :=
  ⟨(B.set 0 (.int .i64 0)).set 1 (.slice none 0 0), (L.setCell (p := ⟨w.heap.size, 0, none⟩) (Nat.le_refl _) (.int .i64 0)).setCell (p := ⟨w.heap.size, 1, none⟩) (Nat.le_refl _) (.slice none 0 0)⟩
set_option maxRecDepth 100000 in
set_option maxHeartbeats 4000000 in
theorem rnew_any (l : Shares) (a : Option Addr) (c : Nat) (w : World) (hx : Shs w a l) (hc : l.length ≤ c) (hlm : l.length ≤ 1000000) :
    Calls Try.prog 13 #[.slice a l.length c] w (NewR l w) := by
  obtain ⟨W1, hW1⟩ : ∃ W1, W1 = w.alloc (.cells #[.int .i64 0, .slice none 0 0] 35) := ⟨_, rfl⟩
  have hb1 : Below w.heap.size w W1 := by rw [hW1]; exact below_alloc (Below.refl _ _) _
  have B1 : Blk W1 w.heap.size 35 #[.int .i64 0, .slice none 0 0] := by rw [hW1]; exact Blk.new w 35 _
  have HB := Lib.hid (And.intro hb1 B1)
  have d0 : W1.cell? ⟨w.heap.size, 0, none⟩ = some (.int .i64 0) := B1.cell 0
  have d1 : W1.cell? ⟨w.heap.size, 1, none⟩ = some (.slice none 0 0) := B1.cell 1
  have d2 := fun j => B1.free j
  have hx1 := hx.below hb1
  have hlt : w.heap.size < W1.heap.size := B1.lt
  clear hb1 B1 hx
  by_cases hl : l.length > 64
  · have HA := Lib.hid (show ckOf l = 6 by rw [ckOf, if_pos hl])
    have p1 : decide ((l.length : Int) > 64) = true := decide_eq_true (by omega)
    clear hl hx1 d0 d1 d2
    go_enter Try.func13, Try.ntmps13
    go_wp2_with (fail)
    rw [← hW1]
    clear hW1
    have e0 : W1.cell? ⟨w.heap.size, 0, none⟩ = some (.int .i64 0) := HB.out.2.cell 0
    have e1 : W1.cell? ⟨w.heap.size, 1, none⟩ = some (.slice none 0 0) := HB.out.2.cell 1
    refine bodyPost_ret (v := .tuple #[.agg #[.int .i64 0, .slice none 0 0], .int .i64 6]) (by simp [results, Try.results13, Try.f13, go_sem, e0, e1]) rfl ?_
    unfold NewR
    rw [if_neg (by rw [HA.out]; decide), HA.out]
    exact ⟨rfl, HB.out.1⟩
  have HV := Lib.hid (show ckOf l = ckGo [] l by rw [ckOf, if_neg hl])
  have p1 : decide ((l.length : Int) > 64) = false := decide_eq_false (by omega)
  have hl64 : l.length ≤ 64 := by omega
  have hmk := fun W => (make_ints' W 0 l.length hlm (Nat.zero_le _)).1
  clear hl
  go_enter Try.func13, Try.ntmps13
  go_wp2
  rw [← hW1]
  clear hW1
  go_loopw [4] (fun i wr => ∃ k n : Nat, i = .int .i64 k ∧ k ≤ l.length ∧ Hid (ckGo [] l = ckGo ((l.take k).map (fun s => s.1)) (l.drop k)) ∧ wr = W1.drewN n) (fun i _ => l.length - (intOf i).toNat)
  case atStart => exact ⟨0, 0, rfl, by omega, Lib.hid rfl, rfl⟩
  case round =>
    obtain ⟨k, n, rfl, hk, HM, rfl⟩ := hrel
    by_cases h : k < l.length
    · obtain ⟨x, rfl, h1, h2⟩ := hx1.at h
      have hat := HM.out.trans (ckGo_at h)
      have q0 : (k : Int) < (l.length : Int) := by omega
      have g0 : (0 : Int) ≤ (k : Int) := by omega
      by_cases ht : l[k].1.size = 0 ∨ l[k].1.size > 24
      · rw [if_pos ht] at hat
        have HA := Lib.hid (HV.out.trans hat)
        by_cases he : l[k].1.size = 0
        · have q1 : decide ((l[k].1.size : Int) < 1) = true := decide_eq_true (by omega)
          generalize l[k] = s at *
          clear hat HM ht he hx1
          go_wp2
          obtain ⟨BA, LA⟩ := err_world (HB.out.2.drewN n) (below_drewN HB.out.1 n)
          obtain ⟨W4, hW4⟩ : ∃ W4, W4 = ((W1.drewN n).setCell ⟨w.heap.size, 0, none⟩ (.int .i64 0)).setCell ⟨w.heap.size, 1, none⟩ (.slice none 0 0) := ⟨_, rfl⟩
          rw [← hW4] at BA LA ⊢
          have e0 : W4.cell? ⟨w.heap.size, 0, none⟩ = some (.int .i64 0) := BA.cell 0
          have e1 : W4.cell? ⟨w.heap.size, 1, none⟩ = some (.slice none 0 0) := BA.cell 1
          refine bodyPost_ret (v := .tuple #[.agg #[.int .i64 0, .slice none 0 0], .int .i64 8]) (by simp [results, Try.results13, Try.f13, go_sem, e0, e1]) rfl ?_
          unfold NewR
          rw [if_neg (by rw [HA.out]; decide), HA.out]
          exact ⟨rfl, LA⟩
        · have q1 : decide ((l[k].1.size : Int) < 1) = false := decide_eq_false (by omega)
          have q2 : decide ((l[k].1.size : Int) > 24) = true := decide_eq_true (by omega)
          generalize l[k] = s at *
          clear hat HM ht he hx1
          go_wp2
          obtain ⟨BA, LA⟩ := err_world (HB.out.2.drewN n) (below_drewN HB.out.1 n)
          obtain ⟨W4, hW4⟩ : ∃ W4, W4 = ((W1.drewN n).setCell ⟨w.heap.size, 0, none⟩ (.int .i64 0)).setCell ⟨w.heap.size, 1, none⟩ (.slice none 0 0) := ⟨_, rfl⟩
          rw [← hW4] at BA LA ⊢
          have e0 : W4.cell? ⟨w.heap.size, 0, none⟩ = some (.int .i64 0) := BA.cell 0
          have e1 : W4.cell? ⟨w.heap.size, 1, none⟩ = some (.slice none 0 0) := BA.cell 1
          refine bodyPost_ret (v := .tuple #[.agg #[.int .i64 0, .slice none 0 0], .int .i64 8]) (by simp [results, Try.results13, Try.f13, go_sem, e0, e1]) rfl ?_
          unfold NewR
          rw [if_neg (by rw [HA.out]; decide), HA.out]
          exact ⟨rfl, LA⟩
      rw [if_neg ht] at hat
      have q1 : decide ((l[k].1.size : Int) < 1) = false := decide_eq_false (by omega)
      have q2 : decide ((l[k].1.size : Int) > 24) = false := decide_eq_false (by omega)
      by_cases hw : l[k].2 < 1 ∨ l[k].2 > 1000
      · rw [if_pos hw] at hat
        have HA := Lib.hid (HV.out.trans hat)
        by_cases hw1 : l[k].2 < 1
        · have q3 : decide (l[k].2 < 1) = true := decide_eq_true hw1
          generalize l[k] = s at *
          clear hat HM ht hw hw1 hx1
          go_wp2
          obtain ⟨BA, LA⟩ := err_world (HB.out.2.drewN n) (below_drewN HB.out.1 n)
          obtain ⟨W4, hW4⟩ : ∃ W4, W4 = ((W1.drewN n).setCell ⟨w.heap.size, 0, none⟩ (.int .i64 0)).setCell ⟨w.heap.size, 1, none⟩ (.slice none 0 0) := ⟨_, rfl⟩
          rw [← hW4] at BA LA ⊢
          have e0 : W4.cell? ⟨w.heap.size, 0, none⟩ = some (.int .i64 0) := BA.cell 0
          have e1 : W4.cell? ⟨w.heap.size, 1, none⟩ = some (.slice none 0 0) := BA.cell 1
          refine bodyPost_ret (v := .tuple #[.agg #[.int .i64 0, .slice none 0 0], .int .i64 7]) (by simp [results, Try.results13, Try.f13, go_sem, e0, e1]) rfl ?_
          unfold NewR
          rw [if_neg (by rw [HA.out]; decide), HA.out]
          exact ⟨rfl, LA⟩
        · have q3 : decide (l[k].2 < 1) = false := decide_eq_false hw1
          have q4 : decide (l[k].2 > 1000) = true := decide_eq_true (by omega)
          generalize l[k] = s at *
          clear hat HM ht hw hw1 hx1
          go_wp2
          obtain ⟨BA, LA⟩ := err_world (HB.out.2.drewN n) (below_drewN HB.out.1 n)
          obtain ⟨W4, hW4⟩ : ∃ W4, W4 = ((W1.drewN n).setCell ⟨w.heap.size, 0, none⟩ (.int .i64 0)).setCell ⟨w.heap.size, 1, none⟩ (.slice none 0 0) := ⟨_, rfl⟩
          rw [← hW4] at BA LA ⊢
          have e0 : W4.cell? ⟨w.heap.size, 0, none⟩ = some (.int .i64 0) := BA.cell 0
          have e1 : W4.cell? ⟨w.heap.size, 1, none⟩ = some (.slice none 0 0) := BA.cell 1
          refine bodyPost_ret (v := .tuple #[.agg #[.int .i64 0, .slice none 0 0], .int .i64 7]) (by simp [results, Try.results13, Try.f13, go_sem, e0, e1]) rfl ?_
          unfold NewR
          rw [if_neg (by rw [HA.out]; decide), HA.out]
          exact ⟨rfl, LA⟩
      rw [if_neg hw] at hat
      have q3 : decide (l[k].2 < 1) = false := decide_eq_false (by omega)
      have q4 : decide (l[k].2 > 1000) = false := decide_eq_false (by omega)
      have HAT := Lib.hid hat
      obtain ⟨s, hs⟩ : ∃ s, l[k] = s := ⟨_, rfl⟩
      have HS := Lib.hid hs
      rw [hs] at h1 h2 q1 q2 q3 q4
      clear hat ht hw hs
      go_wp2
      go_loopw [5] (fun j wr => ∃ i m : Nat, j = .int .i64 i ∧ i ≤ k ∧ Hid (∀ p (hp : p < i) (hl : p < l.length), l[p].1 ≠ s.1) ∧ wr = W1.drewN m) (fun j _ => k - (intOf j).toNat)
      case atStart => exact ⟨0, n, rfl, by omega, Lib.hid fun p hp => absurd hp (by omega), rfl⟩
      case round =>
        obtain ⟨i, m, rfl, hi, HQ, rfl⟩ := hrel
        by_cases hik : i < k
        · obtain ⟨x', hx', e1, e2⟩ := hx1.at (show i < l.length by omega)
          cases hx'
          have r0 : (i : Int) < (k : Int) := by omega
          have r1 : (0 : Int) ≤ (i : Int) := by omega
          have r2 : (i : Int) < (l.length : Int) := by omega
          by_cases he : l[i].1 = s.1
          · have HA : Hid (ckOf l = 10) := by
              refine Lib.hid ?_
              rw [HV.out, HAT.out, HS.out, if_pos]
              rw [← he]
              exact List.mem_map.2 ⟨l[i], by rw [List.mem_take_iff_getElem]; exact ⟨i, by omega, rfl⟩, rfl⟩
            have hq := eq_str (rfl : s.1 = s.1)
            rw [he] at e1
            clear he HQ hx1 HM e2
            go_wp2
            go_quiet (fail)
            go_wp2
            obtain ⟨BA, LA⟩ := err_world (HB.out.2.drewN (m + nq)) (below_drewN HB.out.1 (m + nq))
            obtain ⟨W4, hW4⟩ : ∃ W4, W4 = ((W1.drewN (m + nq)).setCell ⟨w.heap.size, 0, none⟩ (.int .i64 0)).setCell ⟨w.heap.size, 1, none⟩ (.slice none 0 0) := ⟨_, rfl⟩
            rw [← hW4] at BA LA ⊢
            have e0 : W4.cell? ⟨w.heap.size, 0, none⟩ = some (.int .i64 0) := BA.cell 0
            have e1 : W4.cell? ⟨w.heap.size, 1, none⟩ = some (.slice none 0 0) := BA.cell 1
            refine bodyPost_ret (v := .tuple #[.agg #[.int .i64 0, .slice none 0 0], .int .i64 10]) (by simp [results, Try.results13, Try.f13, go_sem, e0, e1]) rfl ?_
            unfold NewR
            rw [if_neg (by rw [HA.out]; decide), HA.out]
            exact ⟨rfl, LA⟩
          · have hq := ne_str he
            have HE := Lib.hid he
            obtain ⟨u, hu⟩ : ∃ u, l[i].1 = u := ⟨_, rfl⟩
            rw [hu] at e1 hq
            clear he hu e2
            go_wp2
            go_quiet (fail)
            go_wp2
            go_roundw
            case rel => exact ⟨i + 1, m + nq, by go_num, by omega, Lib.hid fun p hp hpl => by
              by_cases hj : p = i
              · subst hj; exact HE.out
              · exact HQ.out p (by omega) hpl, rfl⟩
            case measure => simp [intOf]; omega
        · have HN : Hid (ckGo [] l = ckGo ((l.take (k + 1)).map (fun s => s.1)) (l.drop (k + 1))) := by
            refine Lib.hid ?_
            rw [HAT.out, if_neg]
            intro hm
            obtain ⟨y, hy, hye⟩ := List.mem_map.1 hm
            rw [List.mem_take_iff_getElem] at hy
            obtain ⟨p, hp, rfl⟩ := hy
            exact HQ.out p (by omega) (by omega) (by rw [hye, HS.out])
          have r0 : decide ((i : Int) < (k : Int)) = false := decide_eq_false (by omega)
          clear HAT HM HQ
          go_wp2
          go_roundw
          case rel => exact ⟨k + 1, m, by go_num, by omega, HN, rfl⟩
          case measure => simp [intOf]; omega
    · have HA : Hid (ckOf l = 0) := Lib.hid (by rw [HV.out, HM.out, List.drop_eq_nil_of_le (by omega)]; rfl)
      have q0 : decide ((k : Int) < (l.length : Int)) = false := decide_eq_false (by omega)
      have hds : (W1.drewN n).heap.size = W1.heap.size := rfl
      have d3 := fun j => ((HB.out.2.drewN n).alloc (.cells (madeCells #[.int .i64 0] (l.length + 1)) 3)).free j
      have d4 : ((W1.drewN n).alloc (.cells (madeCells #[.int .i64 0] (l.length + 1)) 3)).cell? ⟨w.heap.size, 0, none⟩ = some (.int .i64 0) := ((HB.out.2.drewN n).alloc (.cells (madeCells #[.int .i64 0] (l.length + 1)) 3)).cell 0
      have d5 : ((W1.drewN n).alloc (.cells (madeCells #[.int .i64 0] (l.length + 1)) 3)).cell? ⟨w.heap.size, 1, none⟩ = some (.slice none 0 0) := ((HB.out.2.drewN n).alloc (.cells (madeCells #[.int .i64 0] (l.length + 1)) 3)).cell 1
      clear HM hx1
      go_wp2
      have BA := (((HB.out.2.drewN n).alloc (.cells (madeCells #[.int .i64 0] (l.length + 1)) 3)).set 0 (.int .i64 l.length)).set 1 (.slice (some ⟨W1.heap.size, 0, none⟩) (l.length + 1) (l.length + 1))
      have RA := (((make_ints' (W1.drewN n) w.heap.size l.length hlm (by rw [hds]; omega)).2).other 0 (by rw [hds]; omega : (W1.drewN n).heap.size ≠ w.heap.size) (.int .i64 l.length)).other 1 (by rw [hds]; omega : (W1.drewN n).heap.size ≠ w.heap.size) (.slice (some ⟨W1.heap.size, 0, none⟩) (l.length + 1) (l.length + 1))
      have LA := ((below_alloc (below_drewN HB.out.1 n) (.cells (madeCells #[.int .i64 0] (l.length + 1)) 3)).setCell (p := ⟨w.heap.size, 0, none⟩) (Nat.le_refl _) (.int .i64 l.length)).setCell (p := ⟨w.heap.size, 1, none⟩) (Nat.le_refl _) (.slice (some ⟨W1.heap.size, 0, none⟩) (l.length + 1) (l.length + 1))
      obtain ⟨W4, hW4⟩ : ∃ W4, W4 = (((W1.drewN n).alloc (.cells (madeCells #[.int .i64 0] (l.length + 1)) 3)).setCell ⟨w.heap.size, 0, none⟩ (.int .i64 l.length)).setCell ⟨w.heap.size, 1, none⟩ (.slice (some ⟨W1.heap.size, 0, none⟩) (l.length + 1) (l.length + 1)) := ⟨_, rfl⟩
      rw [← hW4] at BA RA LA ⊢
      have e0 : W4.cell? ⟨w.heap.size, 0, none⟩ = some (.int .i64 l.length) := BA.cell 0
      have e1 : W4.cell? ⟨w.heap.size, 1, none⟩ = some (.slice (some ⟨W1.heap.size, 0, none⟩) (l.length + 1) (l.length + 1)) := BA.cell 1
      refine bodyPost_ret (v := .tuple #[.agg #[.int .i64 l.length, .slice (some ⟨W1.heap.size, 0, none⟩) (l.length + 1) (l.length + 1)], .int .i64 0]) (by simp [results, Try.results13, Try.f13, go_sem, e0, e1]) rfl ?_
      unfold NewR
      rw [if_pos HA.out]
      exact ⟨⟨W1.heap.size, rfl, RA⟩, LA⟩
end Go.Proofs.Ytdfnpknekjgkiaa
