/- lives. -/
import Derived.Test.YtdfnpknekjgkiaaD19
namespace Go.Proofs.Ytdfnpknekjgkiaa
open Go.RowKit
set_option linter.unusedVariables false
set_option linter.unusedSimpArgs false

def SA : ByteArray := { data := #[97] }
def SB : ByteArray := { data := #[98] }
def L0 : Shares := [(SA, 1), (SB, 2)]
def K0 : Shares := [(SA, 10), (SA, 10), (SB, 10), (SB, 10)]
def L1 : Shares := [(SA, 0)]
theorem live_err : errOf L0 (K0.map (fun s => s.1)).length (K0.map (fun s => s.2)) 10 = 0 := by decide +kernel
theorem live_order : orderOf L0 (K0.map (fun s => s.1)) (K0.map (fun s => s.2)) 10 = [0, 2, 3, 1] := by decide +kernel
theorem live_srv : srv L0 (K0.map (fun s => s.1)) (K0.map (fun s => s.2)) [0, 2, 3] = [10, 20] := by decide +kernel
theorem live_ck : ckOf L1 = 7 := by decide +kernel
theorem live_lag : lagOf 2 10 [10, 5] = 30 := by decide +kernel
theorem shs_alloc (w : World) (l : Shares) (e : TypeId) : Shs (w.alloc (.cells (shAll l).toArray e)) (some ⟨w.heap.size, 0, none⟩) l := by
  refine .inr ⟨_, rfl, fun k t hk => ?_⟩
  have e : ∀ j v, j < 2 → (shFlat t)[j]? = some v → (w.alloc (.cells (shAll l).toArray e)).cell? ⟨w.heap.size, k * 2 + j, none⟩ = some v := fun j v hj hv => by
    rw [World.cell?_alloc_mark]
    have := shAll_at l k j t hk hj
    simpa [this] using hv
  rw [add_at]
  exact ⟨e 0 _ (by omega) rfl, e 1 _ (by omega) rfl⟩
theorem vals_ints_n {w : World} {a : Option Addr} {o : List Nat} (h : Vals w a (nInts o)) : Ints .i64 w a (o.map (fun (j : Nat) => (j : Int))) := by
  have : nInts o = (o.map (fun (j : Nat) => (j : Int))).map (Value.int .i64) := by simp [nInts]
  rw [this] at h
  exact h.ints
set_option maxRecDepth 100000 in
set_option maxHeartbeats 8000000 in
theorem lives_any (w : World) : Calls Try.prog 9 #[] w fun e w' => e = .returned (.bool true) ∧ Below w.heap.size w w' := by
  obtain ⟨W1, hW1⟩ : ∃ W1, W1 = w.alloc (.cells #[.string { data := #[97] }, .int .i64 1, .string { data := #[98] }, .int .i64 2] 56) := ⟨_, rfl⟩
  have s1 : Shs W1 (some ⟨w.heap.size, 0, none⟩) L0 := by rw [hW1]; exact shs_alloc w L0 56
  have b1 : Below w.heap.size w W1 := by rw [hW1]; exact below_alloc (Below.refl _ _) _
  have z1 : W1.heap.size = w.heap.size + 1 := by rw [hW1]; simp
  obtain ⟨W2, hW2⟩ : ∃ W2, W2 = W1.alloc (.cells #[.string { data := #[97] }, .int .i64 10, .string { data := #[97] }, .int .i64 10, .string { data := #[98] }, .int .i64 10, .string { data := #[98] }, .int .i64 10] 46) := ⟨_, rfl⟩
  have s2 : Shs W2 (some ⟨w.heap.size + 1, 0, none⟩) K0 := by
    have := shs_alloc W1 K0 46
    rw [z1] at this
    rw [hW2]; exact this
  have b2 : Below w.heap.size w W2 := by rw [hW2]; exact below_alloc b1 _
  have s12 : Shs W2 (some ⟨w.heap.size, 0, none⟩) L0 := by rw [hW2]; exact s1.below (below_alloc (Below.refl _ _) _)
  have QU := Lib.hid (queue_any K0 (some ⟨w.heap.size + 1, 0, none⟩) 4 W2 s2 (by decide) (by decide))
  have HB2 := Lib.hid b2
  have HS := Lib.hid s12
  clear s1 b1 z1 s2 b2 s12
  go_enter Try.func9, Try.ntmps9
  go_wp2_with fail
  rw [← hW1, ← hW2]
  clear hW1 hW2
  refine QU.out.mono ?_
  rintro e w3 ⟨aq, cq, acs, ccs, rfl, rq, ic, lq, lc, nc, b3⟩
  have SH := Lib.hid (HS.out.below b3)
  have OR := Lib.hid (order_any L0 (K0.map (fun s => s.1)) (K0.map (fun s => s.2)) 10 w3 aq (some ⟨w.heap.size, 0, none⟩) acs cq 2 ccs rq SH.out ic (by decide) (by decide) lq (by decide) lc (by decide))
  have HR := Lib.hid (And.intro rq (And.intro ic (And.intro lq lc)))
  have HB3 := Lib.hid (Below.next HB2.out b3)
  clear rq ic lq lc nc b3 QU HS
  go_wp2_with fail
  refine OR.out.mono ?_
  rintro e w4 hO
  unfold OrderR at hO
  rw [if_pos live_err, live_order] at hO
  obtain ⟨⟨v, rfl, hown⟩, b4⟩ := hO
  obtain ⟨av, cv, rfl, hv, hcv, hnv, _⟩ := vals_nints hown
  obtain ⟨rq, ic, lq, lc⟩ := HR.out
  have hvi := vals_ints_n hv
  have SV := Lib.hid (served_any L0 (K0.map (fun s => s.1)) (K0.map (fun s => s.2)) [0, 2, 3, 1] 3 w4 (some ⟨w.heap.size, 0, none⟩) aq acs av 2 cq ccs cv (rq.below b4) (SH.out.below b4) (ic.below b4) hvi (by decide) (by decide) lq (by decide) lc hcv (by decide) (by decide))
  have HV := Lib.hid (And.intro hvi hcv)
  have HB4 := Lib.hid (Below.next HB3.out b4)
  clear rq ic lq lc b4 hown hv hcv hnv hvi OR HR SH
  go_wp2_with fail
  refine SV.out.mono ?_
  rintro e w5 hS
  unfold ServedR at hS
  rw [if_pos (by decide +kernel)] at hS
  obtain ⟨⟨g, rfl, hrow⟩, b5⟩ := hS
  have hrow : RowI w5 w4.heap.size g 2 [10, 20] := by
    rw [← live_srv]; exact hrow
  have HR := Lib.hid hrow
  have hvv := HV.out.1.below b5
  have HV5 := Lib.hid (And.intro hvv HV.out.2)
  have HB5 := Lib.hid (Below.next HB4.out b5)
  obtain ⟨W6, hW6⟩ : ∃ W6, W6 = w5.alloc (.cells #[.string { data := #[97] }, .int .i64 0] 56) := ⟨_, rfl⟩
  have s6 : Shs W6 (some ⟨w5.heap.size, 0, none⟩) L1 := by rw [hW6]; exact shs_alloc w5 L1 56
  have b6 : Below w5.heap.size w5 W6 := by rw [hW6]; exact below_alloc (Below.refl _ _) _
  have NW := Lib.hid (new_any L1 (some ⟨w5.heap.size, 0, none⟩) 1 W6 s6 (by decide) (by decide))
  have H6 := Lib.hid b6
  clear hrow hvv b5 HV s6 b6 SV
  go_wp2_with fail
  rw [← hW6]
  clear hW6
  refine NW.out.mono ?_
  rintro e w7 hN
  unfold NewR at hN
  rw [if_neg (by rw [live_ck]; decide), live_ck] at hN
  obtain ⟨rfl, b7⟩ := hN
  have b57 := Below.next H6.out b7
  have H7 := Lib.hid b57
  clear b7 NW b57
  go_wp2_with fail
  obtain ⟨W8, hW8⟩ : ∃ W8, W8 = (w7.alloc (.cells #[.int .i64 0, .slice none 0 0] 31)).alloc (.cells #[.int .i64 0, .int .i64 2, .int .i64 3, .int .i64 1] 3) := ⟨_, rfl⟩
  have b78 : Below w7.heap.size w7 W8 := by rw [hW8]; exact below_alloc (below_alloc (Below.refl _ _) _) _
  have i8 : Ints .i64 W8 (some ⟨w7.heap.size + 1, 0, none⟩) [0, 2, 3, 1] := by
    have := ints_alloc (w7.alloc (.cells #[.int .i64 0, .slice none 0 0] 31)) .i64 [0, 2, 3, 1] 3
    rw [World.size_alloc] at this
    rw [hW8]; exact this
  have b58 := Below.next H7.out b78
  have E1 := Lib.hid (same_any [0, 2, 3, 1] [0, 2, 3, 1] av (some ⟨w7.heap.size + 1, 0, none⟩) cv 4 W8 (HV5.out.1.below b58) i8 HV5.out.2 (by decide) (by decide) (by decide))
  have H8 := Lib.hid b58
  rw [← hW8]
  clear hW8 b78 i8 b58
  refine E1.out.mono ?_
  rintro e w9 ⟨rfl, b9⟩
  have H9 := Lib.hid (Below.next H8.out b9)
  clear b9 E1
  go_wp2_with fail
  obtain ⟨W10, hW10⟩ : ∃ W10, W10 = w9.alloc (.cells #[.int .i64 10, .int .i64 20] 3) := ⟨_, rfl⟩
  have i10 : Ints .i64 W10 (some ⟨w9.heap.size, 0, none⟩) [10, 20] := by rw [hW10]; exact ints_alloc w9 .i64 [10, 20] 3
  have b10 : Below w5.heap.size w5 W10 := by rw [hW10]; exact below_alloc H9.out _
  have E2 := Lib.hid (same_any [10, 20] [10, 20] (some ⟨g, 0, none⟩) (some ⟨w9.heap.size, 0, none⟩) 2 2 W10 ((HR.out.vals.ints).below b10) i10 (by decide) (by decide) (by decide) (by decide))
  have H10 := Lib.hid b10
  rw [← hW10]
  clear hW10 i10 b10
  refine E2.out.mono ?_
  rintro e w11 ⟨rfl, b11⟩
  have H11 := Lib.hid (Below.next H10.out b11)
  clear b11 E2
  go_wp2_with fail
  obtain ⟨W12, hW12⟩ : ∃ W12, W12 = w11.alloc (.cells #[.int .i64 10, .int .i64 5] 3) := ⟨_, rfl⟩
  have i12 : Ints .i64 W12 (some ⟨w11.heap.size, 0, none⟩) [10, 5] := by rw [hW12]; exact ints_alloc w11 .i64 [10, 5] 3
  have b12 : Below w5.heap.size w5 W12 := by rw [hW12]; exact below_alloc H11.out _
  have E3 := lag_any 2 10 [10, 5] (some ⟨w11.heap.size, 0, none⟩) 2 W12 i12 (by decide) (by decide)
  rw [live_lag] at E3
  replace E3 := Lib.hid E3
  have H12 := Lib.hid (Below.next HB5.out b12)
  rw [← hW12]
  clear hW12 i12 b12
  refine E3.out.mono ?_
  rintro e w13 ⟨rfl, rfl⟩
  go_wp2
  go_ret
  exact ⟨rfl, H12.out⟩
end Go.Proofs.Ytdfnpknekjgkiaa
