/- The laws LzBounded and LzShrinks. -/
import Derived.Test.YtbihkkaikcfilaaK6
namespace Go.Proofs.Ytbihkkaikcfilaa
open Go.RowKit
set_option linter.unusedVariables false
set_option linter.unusedSimpArgs false

set_option maxRecDepth 100000 in
set_option maxHeartbeats 8000000 in
theorem bounded_law (n : Int) (a : Option Addr) (c : Nat) (xs : List Int) (w : World) (hx : Ints .u8 w a xs) (hc : xs.length ≤ c) (hnil : a = none → c = 0) (hm1 : n ≤ 9223372036854775807) (hm2 : -9223372036854775808 ≤ n) :
    Calls Try.prog 6 #[.slice a xs.length c, .int .i64 n] w fun e w' => e = .returned (.bool true) ∧ Below w.heap.size w w' := by
  by_cases h : 65536 < xs.length
  · have d1 : decide ((xs.length : Int) > 65536) = true := decide_eq_true (by omega)
    clear hx
    go_enter Try.func6, Try.ntmps6
    go_wp2_with fail
    refine (lives_any _).mono ?_
    rintro e w1 ⟨rfl, hb1⟩
    go_wp2
    go_ret
    exact ⟨rfl, hb1⟩
  have d1 : decide ((xs.length : Int) > 65536) = false := decide_eq_false (by omega)
  have d1' : decide (65536 < xs.length) = false := decide_eq_false (by omega)
  by_cases h2 : n > 2147483648
  · have d2 : decide (n > 2147483648) = true := decide_eq_true h2
    clear hx
    go_enter Try.func6, Try.ntmps6
    go_wp2_with fail
    refine (lives_any _).mono ?_
    rintro e w1 ⟨rfl, hb1⟩
    go_wp2
    go_ret
    exact ⟨rfl, hb1⟩
  have d2 : decide (n > 2147483648) = false := decide_eq_false h2
  have HX := Lib.hid hx
  have B1 : ∀ wx, Hid (Calls Try.prog 15 #[.int .i64 n] wx _) := fun wx => Lib.hid (bound_any n hm2 (by omega) wx)
  have B2 : ∀ wx, Hid (Calls Try.prog 16 #[.int .i64 n] wx _) := fun wx => Lib.hid (rbound_any n hm2 (by omega) wx)
  have B3 := fun wx => bound_any (xs.length : Int) (by omega) (by omega) wx
  generalize (if n ≤ 0 then 0 else n + 10) = bn at *
  clear hx
  by_cases h0 : xs.length = 0
  · have e0 := List.eq_nil_of_length_eq_zero h0
    subst e0
    simp only [List.length_nil] at B3 ⊢
    rw [show ((0 : Nat) : Int) = 0 from rfl, if_pos (by omega)] at B3
    have B3 : ∀ wx, Hid _ := fun wx => Lib.hid (B3 wx)
    have PK : ∀ wx, Below w.heap.size w wx → _ := fun wx (hw : Below w.heap.size w wx) => pack_any a c [] wx (HX.out.below hw) hc hnil (by simp)
    have HP := Lib.hid PK
    clear PK
    go_enter Try.func6, Try.ntmps6
    go_wp2_with fail
    refine (lives_any _).mono ?_
    rintro e w1 ⟨rfl, hb1⟩
    have PK := Lib.hid (HP.out w1 hb1)
    go_wp2_with fail
    refine PK.out.mono ?_
    rintro e w2 ⟨r, p, rfl, hp, hown, hb2⟩
    obtain rfl := hp.nil rfl
    obtain ⟨ar, cr, rfl, hir⟩ := ints_own hown
    have hb2 := Below.next hb1 hb2
    clear hp hown hir PK HP
    go_wp2_with fail
    refine (B3 _).out.mono ?_
    rintro e w3 ⟨rfl, rfl⟩
    go_wp2_with fail
    refine (B1 _).out.mono ?_
    rintro e w3 ⟨rfl, rfl⟩
    go_wp2_with fail
    refine (B2 _).out.mono ?_
    rintro e w3 ⟨rfl, rfl⟩
    go_wp2
    go_ret
    exact ⟨rfl, hb2⟩
  · rw [if_neg (by omega)] at B3
    have B3 : ∀ wx, Hid _ := fun wx => Lib.hid (B3 wx)
    have q0 : ((xs.length : Int) == 0) = false := beq_eq_false_iff_ne.2 (by omega)
    have PK : ∀ wx, Below w.heap.size w wx → _ := fun wx (hw : Below w.heap.size w wx) => pack_any a c xs wx (HX.out.below hw) hc hnil (by omega)
    have HP := Lib.hid PK
    clear PK
    go_enter Try.func6, Try.ntmps6
    go_wp2_with fail
    refine (lives_any _).mono ?_
    rintro e w1 ⟨rfl, hb1⟩
    have PK := Lib.hid (HP.out w1 hb1)
    go_wp2_with fail
    refine PK.out.mono ?_
    rintro e w2 ⟨r, p, rfl, hp, hown, hb2⟩
    have hpl := hp.len
    obtain ⟨ar, cr, rfl, hir⟩ := ints_own hown
    have hb2 := Below.next hb1 hb2
    have q1 : decide ((p.length : Int) ≤ (xs.length : Int) + 10) = true := decide_eq_true (by omega)
    have q1' : decide (p.length ≤ xs.length + 10) = true := decide_eq_true (by omega)
    clear hp hown hir PK HP
    go_wp2_with fail
    refine (B3 _).out.mono ?_
    rintro e w3 ⟨rfl, rfl⟩
    go_wp2_with fail
    refine (B1 _).out.mono ?_
    rintro e w3 ⟨rfl, rfl⟩
    go_wp2_with fail
    refine (B2 _).out.mono ?_
    rintro e w3 ⟨rfl, rfl⟩
    go_wp2_with fail
    refine (B3 _).out.mono ?_
    rintro e w3 ⟨rfl, rfl⟩
    go_wp2
    go_ret
    exact ⟨rfl, hb2⟩

/-! ### LzShrinks -/
def rep (k : Nat) (u : List Int) : List Int := (List.replicate k u).flatten
theorem rep_len (k : Nat) (u : List Int) : (rep k u).length = k * u.length := by
  unfold rep
  induction k with
  | zero => simp
  | succ k ih => rw [List.replicate_succ, List.flatten_cons, List.length_append, ih, Nat.succ_mul]; omega
theorem rep_succ (k : Nat) (u : List Int) : rep (k + 1) u = rep k u ++ u := by unfold rep; rw [List.replicate_succ']; simp
theorem rep_get (u : List Int) (k : Nat) : ∀ i, i < k * u.length → (rep k u).getD i 0 = u.getD (i % u.length) 0 := by
  induction k with
  | zero => intro i hi; simp at hi
  | succ k ih =>
    intro i hi
    have e : rep (k + 1) u = u ++ rep k u := by unfold rep; rw [List.replicate_succ, List.flatten_cons]
    rw [e]
    by_cases h : i < u.length
    · rw [Nat.mod_eq_of_lt h]; simp [List.getD_eq_getElem?_getD, List.getElem?_append_left h]
    · have h2 := ih (i - u.length) (by rw [Nat.add_mul, Nat.one_mul] at hi; omega)
      rw [List.getD_eq_getElem?_getD, List.getElem?_append_right (by omega), ← List.getD_eq_getElem?_getD, h2]
      exact congrArg (fun z => u.getD z 0) (Nat.mod_eq_sub_mod (by omega)).symm
theorem rep_per (u : List Int) (k : Nat) (h1 : 1 ≤ u.length) (h2 : u.length ≤ 32) (hk : 1 ≤ k) : Per u.length (rep k u) := by
  have hl := rep_len k u
  refine ⟨h1, h2, ?_, fun i hi => ?_⟩
  · rw [hl]; exact Nat.le_mul_of_pos_left _ hk
  · rw [hl] at hi
    rw [rep_get u k _ hi, rep_get u k i (by omega), Nat.add_mod_right]
theorem rep_all (u : List Int) (h : AllB u) (k : Nat) : AllB (rep k u) := by
  intro x hx
  unfold rep at hx
  obtain ⟨l, hl, hx2⟩ := List.mem_flatten.1 hx
  have hl2 := (List.mem_replicate.1 hl).2
  rw [hl2] at hx2
  exact h x hx2

structure RpInv (w : World) (u : List Int) (k : Nat) (out : Value) (wr : World) : Prop where
  own : wr.ownsRow w.heap.size 5 1 out (rep k u).length ((rep k u).map (Value.int .u8))
  low : Below w.heap.size w wr
set_option maxRecDepth 100000 in
set_option maxHeartbeats 8000000 in
theorem shrinks_law (t : Int) (a : Option Addr) (c : Nat) (xs : List Int) (w : World) (hx : Ints .u8 w a xs) (hb : AllB xs) (hc : xs.length ≤ c) (hnil : a = none → c = 0) (hm1 : 0 ≤ t) (hm2 : t ≤ 65535) :
    Calls Try.prog 7 #[.slice a xs.length c, .int .u16 t] w fun e w' => e = .returned (.bool true) ∧ Below w.heap.size w w' := by
  by_cases h1 : xs.length < 1
  · have d1 : decide ((xs.length : Int) < 1) = true := decide_eq_true (by omega)
    have d1' : decide (xs.length < 1) = true := decide_eq_true h1
    clear hx hb
    go_enter Try.func7, Try.ntmps7
    go_wp2_with fail
    refine (lives_any _).mono ?_
    rintro e w1 ⟨rfl, hb1⟩
    go_wp2
    go_ret
    exact ⟨rfl, hb1⟩
  have d1 : decide ((xs.length : Int) < 1) = false := decide_eq_false (by omega)
  have d1' : decide (xs.length < 1) = false := decide_eq_false h1
  by_cases h2 : 32 < xs.length
  · have d2 : decide ((xs.length : Int) > 32) = true := decide_eq_true (by omega)
    clear hx hb
    go_enter Try.func7, Try.ntmps7
    go_wp2_with fail
    refine (lives_any _).mono ?_
    rintro e w1 ⟨rfl, hb1⟩
    go_wp2
    go_ret
    exact ⟨rfl, hb1⟩
  have d2 : decide ((xs.length : Int) > 32) = false := decide_eq_false (by omega)
  have d2' : decide (32 < xs.length) = false := decide_eq_false h2
  by_cases h3 : t < 2
  · have d3 : decide (t < 2) = true := decide_eq_true h3
    clear hx hb
    go_enter Try.func7, Try.ntmps7
    go_wp2_with fail
    refine (lives_any _).mono ?_
    rintro e w1 ⟨rfl, hb1⟩
    go_wp2
    go_ret
    exact ⟨rfl, hb1⟩
  have d3 : decide (t < 2) = false := decide_eq_false h3
  by_cases h4 : t > 3000
  · have d4 : decide (t > 3000) = true := decide_eq_true h4
    clear hx hb
    go_enter Try.func7, Try.ntmps7
    go_wp2_with fail
    refine (lives_any _).mono ?_
    rintro e w1 ⟨rfl, hb1⟩
    go_wp2
    go_ret
    exact ⟨rfl, hb1⟩
  have d4 : decide (t > 3000) = false := decide_eq_false h4
  obtain ⟨t, rfl⟩ := Int.eq_ofNat_of_zero_le hm1
  have ht1 : 2 ≤ t ∧ t ≤ 3000 := by omega
  have hxl : 1 ≤ xs.length ∧ xs.length ≤ 32 := by omega
  have hkl : ∀ k, k ≤ t → (rep k xs).length ≤ 96000 := fun k hk => by
    rw [rep_len]
    calc k * xs.length ≤ 3000 * 32 := Nat.mul_le_mul (by omega) (by omega)
      _ = 96000 := rfl
  obtain ⟨i0, hi, hz0, hz1, hz2⟩ := info_parts info5
  have HX := Lib.hid hx
  have HB := Lib.hid hb
  have HK := Lib.hid hkl
  clear hx hb hkl h1 h2 h3 h4
  go_enter Try.func7, Try.ntmps7
  go_wp2_with fail
  refine (lives_any _).mono ?_
  rintro e w1 ⟨rfl, hb1⟩
  have HS : Hid (RpInv w xs 0 (.slice (some ⟨w1.heap.size, 0, none⟩) 0 0) (w1.alloc (.cells #[] 5))) := ⟨World.ownsRow_lit (base := w.heap.size) (e := 5) (size := 1) w1 #[] 0 hb1.size (by unfold maxLen; omega) rfl, below_alloc hb1 _⟩
  clear hb1
  go_wp2
  go_loopw [5, 6] (fun out i wr => ∃ k : Nat, i = .int .i64 k ∧ k ≤ t ∧ RpInv w xs k out wr) (fun _ i _ => t - (intOf i).toNat)
  case atStart => exact ⟨0, rfl, by omega, HS.out⟩
  case round =>
    obtain ⟨k, rfl, hk, hown, hlow⟩ := hrel
    clear HS
    obtain ⟨ao, co, rfl, hio⟩ := ints_own hown
    have hkl := HK.out k hk
    by_cases hlt : k < t
    · have q1 : decide ((k : Int) < (t : Int)) = true := decide_eq_true (by omega)
      have q1' : decide (k < t) = true := decide_eq_true hlt
      have hsu := rep_succ k xs
      have HV := Lib.hid (HX.out.below hlow).vals
      generalize rep k xs = o at *
      have HSu := Lib.hid hsu
      clear hio hsu
      go_wp2_with (at_builtin; refine wpList_append_vals _ rfl _ _ 22 rfl w.heap.size 5 i0 (.int .u8 0) 1 Try.underlying22 hi hz0 hz1 hz2 rfl _ o.length (o.map (Value.int .u8)) rfl hown a c xs.length (xs.map (Value.int .u8)) (by simp) rfl HV.out (ints_oneCell _ _) hnil (by unfold maxLen; omega) (by omega) hlow.size ?_)
      intro v3 w3 hown3 hgrow3
      have hlow3 : Below w.heap.size w w3 := below_app hlow hgrow3 hown
      have HO3 : Hid (w3.ownsRow w.heap.size 5 1 v3 (o ++ xs).length ((o ++ xs).map (Value.int .u8))) := by
        rw [List.length_append, List.map_append]; exact hown3
      clear hown3 hgrow3 hown
      go_wp2
      go_roundw
      case rel => exact ⟨k + 1, by go_num, by omega, by rw [HSu.out]; exact HO3.out, hlow3⟩
      case measure => simp [intOf]; omega
    · have q1 : decide ((k : Int) < (t : Int)) = false := decide_eq_false (by omega)
      have q1' : decide (k < t) = false := decide_eq_false hlt
      obtain rfl : k = t := by omega
      have hper := rep_per xs k hxl.1 hxl.2 (by omega)
      have hall := rep_all xs HB.out k
      have hoc := own_cap hown
      have hon := own_nil hown
      have PK := Lib.hid (pack_any ao co (rep k xs) wr hio (by simpa using hoc) hon (by omega))
      have HI := Lib.hid hio
      have HP := Lib.hid hper
      have HAl := Lib.hid hall
      have HLo := Lib.hid hlow
      generalize rep k xs = o at *
      clear hper hall hoc hon hown hio hlow
      go_wp2_with fail
      refine PK.out.mono ?_
      rintro e w2 ⟨r, p, rfl, hp, hown2, hb2⟩
      have hu := pack_unp hp HAl.out (o.length : Int) (by omega)
      have hsh := hp.sh _ HP.out
      have hpl := hp.len
      have hpa : AllB p := hp.all HAl.out
      obtain ⟨a3, c3, rfl, hi3⟩ := ints_own hown2
      have hpc := own_cap hown2
      have U := unpack_any (o.length : Int) a3 c3 p w2 hi3 hpa hpc (by omega) (by omega) (by omega)
      rw [hu] at U
      have HU := Lib.hid U
      have hb2' := Lib.hid (Below.next HLo.out hb2)
      have HI2 := Lib.hid (HI.out.below hb2)
      have q2 : decide ((p.length : Int) ≤ (xs.length : Int) + 24) = true := decide_eq_true (by omega)
      have q2' : decide (p.length ≤ xs.length + 24) = true := decide_eq_true (by omega)
      clear U hu hpa hpc hown2 hi3 hp hb2 PK
      go_wp2_with fail
      refine HU.out.mono ?_
      rintro e w4 ⟨v4, rfl, hown4, hb4⟩
      obtain ⟨a4, c4, rfl, hi4⟩ := ints_own hown4
      have hcv := conv_ints a4 c4 _ o w4 hi4 rfl
      have hcv2 := conv_ints ao co _ o w4 (HI2.out.below hb4) rfl
      have HB5 := Lib.hid (Below.next hb2'.out hb4)
      clear hown4 hi4 hb4 HU
      generalize strOfNums o = so at *
      go_wp2
      go_ret
      exact ⟨rfl, HB5.out⟩
end Go.Proofs.Ytbihkkaikcfilaa
