/- The contracts of codec.Uint and of the reference's: both return one function of the bytes and the place. -/
import Derived.Test.YtbihkkaikcfilaaC
import Derived.Test.YtbihkkaikcfilaaP1
namespace Go.Proofs.Ytbihkkaikcfilaa
open Go.RowKit
set_option linter.unusedVariables false
set_option linter.unusedSimpArgs false

theorem info5 : (Try.prog.info? 5).map (fun i => (i.zero, i.size, i.bytes)) = some (some (.int .u8 0), 1, 1) := by kernel_rfl

def u3 (u : Int × Int × Int) : Value := .tuple #[.int .u64 u.1, .int .i64 u.2.1, .int .i64 u.2.2]

set_option maxHeartbeats 2000000 in
theorem uint_any (p : Nat) (a : Option Addr) (c : Nat) (xs : List Int) (w : World) (hp : p ≤ xs.length) (hx : Ints .u8 w a xs) (hb : AllB xs) (hc : xs.length ≤ c) (hl : xs.length ≤ 140737488351000) :
    Calls Try.prog 27 #[.slice a xs.length c, .int .i64 p] w fun e w' => e = .returned (u3 (uintOf xs p)) ∧ w = w' := by
  obtain ⟨i5, hi5, hy0, hy1, hy2⟩ := info_parts info5
  have d0 : decide ((p : Int) < 0) = false := decide_eq_false (by omega)
  have d1 : decide ((p : Int) > (xs.length : Int)) = false := decide_eq_false (by omega)
  have d1' : decide (p > xs.length) = false := decide_eq_false (by omega)
  obtain ⟨g, hg⟩ : ∃ g : Nat, g = min 10 (xs.length - p) := ⟨_, rfl⟩
  have hcut1 := fun W => mid_run (P := Try.prog) 22 5 Try.underlying22 hi5 .i64 .i64 a xs.length c p (p + g) (by omega) (by omega) W
  rw [hy1, show p + g - p = g from by omega] at hcut1
  have hI := (hx.drop p c hc).take g
  have hlg : ((xs.drop p).take g).length = g := by rw [List.length_take, List.length_drop]; omega
  generalize (if c = p then a else a.map (·.add (p * 1))) = a2 at *
  have HG := Lib.hid hg
  have HI := Lib.hid hI
  have HL := Lib.hid hlg
  clear hI hlg hx
  rcases (show (xs.length < p + 10 ∧ p + g = xs.length) ∨ (¬ xs.length < p + 10 ∧ g = 10) by omega) with ⟨hq, hgq⟩ | ⟨hq, hgq⟩
  · have hcut := hcut1
    rw [hgq] at hcut
    have hq' : (xs.length : Int) < (p : Int) + 10 := by omega
    clear hgq hg hcut1
    go_enter Try.func27, Try.ntmps27
    go_wp2
    go_loop [8, 29] (fun n i => ∃ (k : Nat) (z : Int), k ≤ g ∧ i = .int .i64 k ∧ n = .int .u64 z ∧ (k ≤ 9 → 0 ≤ z ∧ z < 128 ^ k) ∧ uintOf xs p = ug xs p (10 - k) k z) (fun _ i => g - (intOf i).toNat)
    case atStart => exact ⟨0, 0, by omega, rfl, rfl, fun _ => ⟨by omega, by simp⟩, rfl⟩
    case round =>
      obtain ⟨k, z, hk, rfl, rfl, hz, hu⟩ := hrel
      have hg' := HG.out
      by_cases hlt : k < g
      · obtain ⟨x, rfl, hcell⟩ := HI.out.at (i := k) (by rw [HL.out]; exact hlt)
        have hxk : ((xs.drop p).take g).getD k 0 = xs.getD (p + k) 0 := by rw [List.getD_eq_getElem?_getD, List.getD_eq_getElem?_getD, List.getElem?_take, if_pos hlt, List.getElem?_drop]
        rw [hxk] at hcell
        have hxb := hb.getD (p + k)
        have hug : ug xs p (10 - k) k z = ug xs p (9 - k + 1) k z := by congr 1; omega
        rw [hug] at hu
        unfold ug at hu
        rw [if_neg (by omega)] at hu
        generalize xs.getD (p + k) 0 = y at *
        have hk9 : (k : Int) ≤ 9 := by omega
        have hz' := hz (by omega)
        have HZ := Lib.hid hz'
        clear hz hz' hg' hug hxk
        by_cases c2 : 128 ≤ y
        · have t1 : decide (y ≥ 128) = true := decide_eq_true c2
          rw [if_pos c2] at hu
          have HU := Lib.hid hu
          clear hu
          go_wp2
          go_round
          case rel =>
            have hk1 : k + 1 ≤ g := by omega
            by_cases h8 : k ≤ 8
            · obtain ⟨e1, e2, e3⟩ := shl_step k (y - 128) z h8 (by omega) (by omega) HZ.out
              exact ⟨k + 1, _, hk1, by go_num, by rw [e1], fun _ => ⟨e2, e3⟩, by rw [HU.out]; congr 1; omega⟩
            · obtain rfl : k = 9 := by omega
              exact ⟨9 + 1, _, hk1, by go_num, rfl, fun h => by omega, HU.out⟩
          case measure => simp [intOf]; omega
        · have t1 : decide (y ≥ 128) = false := decide_eq_false c2
          rw [if_neg c2] at hu
          by_cases c3 : k = 9 ∧ 1 < y
          · have t2 : ((k : Int) == 9) = true := beq_iff_eq.2 (by omega)
            have t3 : decide (y > 1) = true := decide_eq_true c3.2
            rw [if_pos c3] at hu
            have HU := Lib.hid hu
            clear hu c3
            go_wp2
            go_ret3
            exact ⟨by rw [u3, HU.out]; rfl, rfl⟩
          · rw [if_neg c3] at hu
            by_cases c4 : 0 < k ∧ y = 0
            · have t4 : decide ((k : Int) > 0) = true := decide_eq_true (by omega)
              have t5 : (y == 0) = true := beq_iff_eq.2 c4.2
              have t3 : decide (y > 1) = false := decide_eq_false (by omega)
              rw [if_pos c4] at hu
              have HU := Lib.hid hu
              have hk0 := c4.1
              clear hu c3 c4
              by_cases h9 : k = 9
              · have t2 : ((k : Int) == 9) = true := beq_iff_eq.2 (by omega)
                clear h9
                go_wp2
                go_ret3
                exact ⟨by rw [u3, HU.out]; rfl, rfl⟩
              · have t2 : ((k : Int) == 9) = false := beq_eq_false_iff_ne.2 (by omega)
                clear h9
                go_wp2
                go_ret3
                exact ⟨by rw [u3, HU.out]; rfl, rfl⟩
            · rw [if_neg c4] at hu
              have e1 := shl_last k y z (by omega) (by omega) (by omega) (fun h => by omega) HZ.out
              rw [← e1] at hu
              have HU := Lib.hid hu
              clear hu e1
              by_cases h9 : k = 9
              · have t2 : ((k : Int) == 9) = true := beq_iff_eq.2 (by omega)
                have t3 : decide (y > 1) = false := decide_eq_false (by omega)
                have t4 : decide ((k : Int) > 0) = true := decide_eq_true (by omega)
                have t5 : (y == 0) = false := beq_eq_false_iff_ne.2 (by omega)
                have hk0 : 0 < k := by omega
                clear h9 c3 c4
                go_wp2
                go_ret3
                exact ⟨by rw [u3, HU.out]; rfl, rfl⟩
              · have t2 : ((k : Int) == 9) = false := beq_eq_false_iff_ne.2 (by omega)
                by_cases hk0 : 0 < k
                · have t4 : decide ((k : Int) > 0) = true := decide_eq_true (by omega)
                  have t5 : (y == 0) = false := beq_eq_false_iff_ne.2 (by omega)
                  clear h9 c3 c4
                  go_wp2
                  go_ret3
                  exact ⟨by rw [u3, HU.out]; rfl, rfl⟩
                · have t4 : decide ((k : Int) > 0) = false := decide_eq_false (by omega)
                  clear h9 c3 c4
                  go_wp2
                  go_ret3
                  exact ⟨by rw [u3, HU.out]; rfl, rfl⟩
      · obtain rfl : k = g := by omega
        by_cases h10 : k = 10
        · have t2 : ((k : Int) == 10) = true := beq_iff_eq.2 (by omega)
          have hfin : uintOf xs p = (0, 0, 6) := by rw [hu, h10]; rfl
          have HU := Lib.hid hfin
          clear hu hfin h10 hg' hz
          go_wp2
          go_ret3
          exact ⟨by rw [u3, HU.out]; rfl, rfl⟩
        · have t2 : ((k : Int) == 10) = false := beq_eq_false_iff_ne.2 (by omega)
          have hfin : uintOf xs p = (0, 0, 2) := by
            rw [hu, show 10 - k = 9 - k + 1 from by omega, ug, if_pos (by omega)]
          have HU := Lib.hid hfin
          clear hu hfin h10 hg' hz
          go_wp2
          go_ret3
          exact ⟨by rw [u3, HU.out]; rfl, rfl⟩
  · have hcut := hcut1
    rw [show ((p + g : Nat) : Int) = (p : Int) + 10 from by omega] at hcut
    have hq' : ¬ (xs.length : Int) < (p : Int) + 10 := by omega
    clear hgq hg hcut1
    go_enter Try.func27, Try.ntmps27
    go_wp2
    go_loop [8, 29] (fun n i => ∃ (k : Nat) (z : Int), k ≤ g ∧ i = .int .i64 k ∧ n = .int .u64 z ∧ (k ≤ 9 → 0 ≤ z ∧ z < 128 ^ k) ∧ uintOf xs p = ug xs p (10 - k) k z) (fun _ i => g - (intOf i).toNat)
    case atStart => exact ⟨0, 0, by omega, rfl, rfl, fun _ => ⟨by omega, by simp⟩, rfl⟩
    case round =>
      obtain ⟨k, z, hk, rfl, rfl, hz, hu⟩ := hrel
      have hg' := HG.out
      by_cases hlt : k < g
      · obtain ⟨x, rfl, hcell⟩ := HI.out.at (i := k) (by rw [HL.out]; exact hlt)
        have hxk : ((xs.drop p).take g).getD k 0 = xs.getD (p + k) 0 := by rw [List.getD_eq_getElem?_getD, List.getD_eq_getElem?_getD, List.getElem?_take, if_pos hlt, List.getElem?_drop]
        rw [hxk] at hcell
        have hxb := hb.getD (p + k)
        have hug : ug xs p (10 - k) k z = ug xs p (9 - k + 1) k z := by congr 1; omega
        rw [hug] at hu
        unfold ug at hu
        rw [if_neg (by omega)] at hu
        generalize xs.getD (p + k) 0 = y at *
        have hk9 : (k : Int) ≤ 9 := by omega
        have hz' := hz (by omega)
        have HZ := Lib.hid hz'
        clear hz hz' hg' hug hxk
        by_cases c2 : 128 ≤ y
        · have t1 : decide (y ≥ 128) = true := decide_eq_true c2
          rw [if_pos c2] at hu
          have HU := Lib.hid hu
          clear hu
          go_wp2
          go_round
          case rel =>
            have hk1 : k + 1 ≤ g := by omega
            by_cases h8 : k ≤ 8
            · obtain ⟨e1, e2, e3⟩ := shl_step k (y - 128) z h8 (by omega) (by omega) HZ.out
              exact ⟨k + 1, _, hk1, by go_num, by rw [e1], fun _ => ⟨e2, e3⟩, by rw [HU.out]; congr 1; omega⟩
            · obtain rfl : k = 9 := by omega
              exact ⟨9 + 1, _, hk1, by go_num, rfl, fun h => by omega, HU.out⟩
          case measure => simp [intOf]; omega
        · have t1 : decide (y ≥ 128) = false := decide_eq_false c2
          rw [if_neg c2] at hu
          by_cases c3 : k = 9 ∧ 1 < y
          · have t2 : ((k : Int) == 9) = true := beq_iff_eq.2 (by omega)
            have t3 : decide (y > 1) = true := decide_eq_true c3.2
            rw [if_pos c3] at hu
            have HU := Lib.hid hu
            clear hu c3
            go_wp2
            go_ret3
            exact ⟨by rw [u3, HU.out]; rfl, rfl⟩
          · rw [if_neg c3] at hu
            by_cases c4 : 0 < k ∧ y = 0
            · have t4 : decide ((k : Int) > 0) = true := decide_eq_true (by omega)
              have t5 : (y == 0) = true := beq_iff_eq.2 c4.2
              have t3 : decide (y > 1) = false := decide_eq_false (by omega)
              rw [if_pos c4] at hu
              have HU := Lib.hid hu
              have hk0 := c4.1
              clear hu c3 c4
              by_cases h9 : k = 9
              · have t2 : ((k : Int) == 9) = true := beq_iff_eq.2 (by omega)
                clear h9
                go_wp2
                go_ret3
                exact ⟨by rw [u3, HU.out]; rfl, rfl⟩
              · have t2 : ((k : Int) == 9) = false := beq_eq_false_iff_ne.2 (by omega)
                clear h9
                go_wp2
                go_ret3
                exact ⟨by rw [u3, HU.out]; rfl, rfl⟩
            · rw [if_neg c4] at hu
              have e1 := shl_last k y z (by omega) (by omega) (by omega) (fun h => by omega) HZ.out
              rw [← e1] at hu
              have HU := Lib.hid hu
              clear hu e1
              by_cases h9 : k = 9
              · have t2 : ((k : Int) == 9) = true := beq_iff_eq.2 (by omega)
                have t3 : decide (y > 1) = false := decide_eq_false (by omega)
                have t4 : decide ((k : Int) > 0) = true := decide_eq_true (by omega)
                have t5 : (y == 0) = false := beq_eq_false_iff_ne.2 (by omega)
                have hk0 : 0 < k := by omega
                clear h9 c3 c4
                go_wp2
                go_ret3
                exact ⟨by rw [u3, HU.out]; rfl, rfl⟩
              · have t2 : ((k : Int) == 9) = false := beq_eq_false_iff_ne.2 (by omega)
                by_cases hk0 : 0 < k
                · have t4 : decide ((k : Int) > 0) = true := decide_eq_true (by omega)
                  have t5 : (y == 0) = false := beq_eq_false_iff_ne.2 (by omega)
                  clear h9 c3 c4
                  go_wp2
                  go_ret3
                  exact ⟨by rw [u3, HU.out]; rfl, rfl⟩
                · have t4 : decide ((k : Int) > 0) = false := decide_eq_false (by omega)
                  clear h9 c3 c4
                  go_wp2
                  go_ret3
                  exact ⟨by rw [u3, HU.out]; rfl, rfl⟩
      · obtain rfl : k = g := by omega
        by_cases h10 : k = 10
        · have t2 : ((k : Int) == 10) = true := beq_iff_eq.2 (by omega)
          have hfin : uintOf xs p = (0, 0, 6) := by rw [hu, h10]; rfl
          have HU := Lib.hid hfin
          clear hu hfin h10 hg' hz
          go_wp2
          go_ret3
          exact ⟨by rw [u3, HU.out]; rfl, rfl⟩
        · have t2 : ((k : Int) == 10) = false := beq_eq_false_iff_ne.2 (by omega)
          have hfin : uintOf xs p = (0, 0, 2) := by
            rw [hu, show 10 - k = 9 - k + 1 from by omega, ug, if_pos (by omega)]
          have HU := Lib.hid hfin
          clear hu hfin h10 hg' hz
          go_wp2
          go_ret3
          exact ⟨by rw [u3, HU.out]; rfl, rfl⟩
end Go.Proofs.Ytbihkkaikcfilaa
